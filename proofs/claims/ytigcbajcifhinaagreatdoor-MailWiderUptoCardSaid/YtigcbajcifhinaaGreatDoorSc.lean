/- What the proof of LawMailWider builds upon, part 3: contracts of the program's functions, by walks through their code. -/
import Derived.Deep.RegionLaw
import Derived.RangeFuncBox
import Derived.Test.YtigcbajcifhinaaGreatDoorSb
set_option maxRecDepth 100000
set_option maxHeartbeats 4000000
set_option linter.unusedVariables false
set_option linter.unusedSimpArgs false
namespace Go.Proofs.YtigcbajcifhinaaGreatDoor.Txt
open Go.RowKit Go.Proofs.YtigcbajcifhinaaGreatDoorW.PrintWords
def lineF (r : ByteArray) : ByteArray × ByteArray :=
 (if (Lib.cut r.data.toList [10]).2.2 = true then ⟨(Lib.trimSuffix (Lib.cut r.data.toList [10]).1 [13]).toArray⟩ else ⟨(Lib.cut r.data.toList [10]).1.toArray⟩, ⟨(Lib.cut r.data.toList [10]).2.1.toArray⟩)
def letterZ (x : Int) : Bool := (decide (32 < x) && decide (x < 127)) && (x != 58)
def nameL : List UInt8 → Nat
 | [] => 0
 | c :: r => if letterZ c.toNat = true then nameL r + 1 else 0
def namedF (s : ByteArray) : Nat :=
 match s.data.toList.drop (nameL s.data.toList) with
 | [] => 0
 | c :: _ => if c.toNat = 58 then nameL s.data.toList else 0
theorem line_any (r : ByteArray) (w : World) (hT : Tabs w) (hs : r.size ≤ 1073741824) :
  Calls Tryz.prog 38 #[.string r] w fun e w' => e = .returned (.tuple #[.string (lineF r).1, .string (lineF r).2]) ∧ ∃ n, w' = w.drewN n := by
 obtain ⟨m, hm⟩ := hT.2.1
 have hc := Tryz.strings_Cut r ⟨#[10]⟩ m w (by omega) hm
 have hl := cut1_len r.data.toList [10]
 rw [list_size] at hl
 obtain ⟨a, ha⟩ : ∃ a, (Lib.cut r.data.toList [10]).1 = a := ⟨_, rfl⟩
 obtain ⟨b, hb⟩ : ∃ b, (Lib.cut r.data.toList [10]).2.1 = b := ⟨_, rfl⟩
 obtain ⟨c, hcc⟩ : ∃ c, (Lib.cut r.data.toList [10]).2.2 = c := ⟨_, rfl⟩
 have hc' : Calls Tryz.prog 44 #[.string r, .string ⟨#[10]⟩] w fun e w' => e = .returned (.tuple #[.string ⟨a.toArray⟩, .string ⟨b.toArray⟩, .bool c]) ∧ ∃ n, w' = w.drewN n := by
  rw [← ha, ← hb, ← hcc]
  exact hc
 unfold lineF
 rw [ha, hb, hcc]
 rw [ha] at hl
 obtain ⟨A, hA⟩ : ∃ A : ByteArray, (⟨a.toArray⟩ : ByteArray) = A := ⟨_, rfl⟩
 obtain ⟨B, hB⟩ : ∃ B : ByteArray, (⟨b.toArray⟩ : ByteArray) = B := ⟨_, rfl⟩
 have hAl : A.data.toList = a := by rw [← hA]
 rw [hA, hB] at hc'
 rw [hA, hB]
 have hAs : A.size ≤ 9223372036854775807 := by rw [← hA, mk_size]; omega
 have hts := fun W => Tryz.strings_TrimSuffix A ⟨#[13]⟩ W hAs
 rw [hAl] at hts
 obtain ⟨t, ht⟩ : ∃ t : ByteArray, (⟨(Lib.trimSuffix a [13]).toArray⟩ : ByteArray) = t := ⟨_, rfl⟩
 have hts' : ∀ W, Calls Tryz.prog 75 #[.string A, .string ⟨#[13]⟩] W fun e w' => e = .returned (.string t) ∧ w' = W := fun W => by rw [← ht]; exact hts W
 rw [ht]
 have HC := Lib.hid hc'
 have HT := Lib.hid hts'
 clear hc hc' ha hb hcc hl hT hm hts hts' ht hA hB hAl
 cases c with
 | true =>
  go_enter Tryz.func38, Tryz.ntmps38
  go_wp2_with (first | (go_at_call 44; refine HC.out.mono ?_; rintro e w1 ⟨rfl, ⟨n, rfl⟩⟩) | (go_at_call 75; refine (HT.out _).mono ?_; rintro e w2 ⟨rfl, rfl⟩))
  go_ret2
  exact ⟨rfl, _, rfl⟩
 | false =>
  go_enter Tryz.func38, Tryz.ntmps38
  go_wp2_with (first | (go_at_call 44; refine HC.out.mono ?_; rintro e w1 ⟨rfl, ⟨n, rfl⟩⟩) | (go_at_call 75; refine (HT.out _).mono ?_; rintro e w2 ⟨rfl, rfl⟩))
  go_ret2
  exact ⟨rfl, _, rfl⟩
theorem letterB_any (x : Int) (w : World) : Calls Tryz.prog 76 #[.int .u8 x] w fun e w' => e = .returned (.bool (letterZ x)) ∧ w = w' := by
 unfold letterZ
 go_enter Tryz.func76, Tryz.ntmps76
 go_wp2
 all_goals (go_ret; refine ⟨?_, rfl⟩; (try simp_all); (try (intros; omega)))
theorem nameL_le : ∀ l : List UInt8, nameL l ≤ l.length
 | [] => Nat.le_refl _
 | c :: r => by unfold nameL; have := nameL_le r; split <;> simp; omega
theorem nameL_stop (l : List UInt8) : ∀ k, (∀ j (h : j < l.length), j < k → letterZ l[j].toNat = true) → k ≤ l.length → (∀ h : k < l.length, letterZ l[k].toNat = false) → nameL l = k := by
 induction l with
 | nil => intro k _ hk _; simp at hk; subst hk; rfl
 | cons c r ih =>
  intro k h1 hk h2
  cases k with
  | zero =>
   unfold nameL
   rw [if_neg]
   have := h2 (by simp)
   simp at this
   rw [this]
   decide
  | succ k =>
   unfold nameL
   have h0 := h1 0 (by simp) (by omega)
   simp at h0
   rw [if_pos h0, ih k (fun j h hj => by have := h1 (j + 1) (by simp; omega) (by omega); simpa using this) (by simpa using hk) (fun h => by have := h2 (by simp; omega); simpa using this)]
theorem named_any (s : ByteArray) (w : World) (hs : s.size ≤ 1073741824) : Calls Tryz.prog 39 #[.string s] w fun e w' => e = .returned (.int .i64 (namedF s : Int)) ∧ w = w' := by
 have HS := Lib.hid hs
 have HL := Lib.hid letterB_any
 clear hs
 go_enter Tryz.func39, Tryz.ntmps39
 go_wp2
 go_loopw [3] (fun vi wr => ∃ k : Nat, k ≤ s.size ∧ vi = .int .i64 (k : Int) ∧ Hid (∀ j (h : j < s.data.toList.length), j < k → letterZ s.data.toList[j].toNat = true) ∧ w = wr) (fun vi _ => s.size - (intOf vi).toNat)
 case atStart => exact ⟨0, by omega, rfl, Lib.hid (fun _ _ h => by omega), rfl⟩
 case round =>
  obtain ⟨k, hk, rfl, HA, rfl⟩ := hrel
  have hk64 : (k : Int) ≤ 1073741824 := by have := HS.out; omega
  by_cases k5 : k = s.size
  ·
   have hn : namedF s = 0 := by
    have e := nameL_stop s.data.toList k HA.out (by rw [data_length]; exact hk) (fun h => by rw [data_length] at h; omega)
    unfold namedF
    rw [e, List.drop_of_length_le (by rw [data_length]; omega)]
   have HN := Lib.hid hn
   clear hn
   subst k5
   go_wp2
   go_ret
   rw [HN.out]
   exact ⟨rfl, rfl⟩
  ·
   have hlt : k < s.size := by omega
   obtain ⟨c, hc, hb⟩ := cons_at s k hlt
   have hcl : ∀ h : k < s.data.toList.length, s.data.toList[k] = c := fun h => by
    have := List.drop_eq_getElem_cons h
    rw [this] at hc
    injection hc
   obtain ⟨x, hx⟩ : ∃ x : Int, (c.toNat : Int) = x := ⟨_, rfl⟩
   rw [hx] at hb
   have e1 : (k : Int) < (s.size : Int) := by omega
   have eK : ((k : Int) == (s.size : Int)) = false := by simp; omega
   obtain ⟨z, hz⟩ : ∃ z, letterZ x = z := ⟨_, rfl⟩
   have HL2 := Lib.hid (fun W => HL.out x W)
   rw [hz] at HL2
   have HK := Lib.hid hk
   have K5 := Lib.hid k5
   have HCL := Lib.hid hcl
   cases z with
   | true =>
    have HX := Lib.hid hx
    have HZ := Lib.hid hz
    clear hc hx hz hcl hk k5
    go_wp2_with (first | (go_at_call 76; refine (HL2.out _).mono ?_; rintro e w1 ⟨rfl, rfl⟩))
    go_roundw
    case measure => have h1 := HK.out; have h2 := K5.out; simp [intOf]; omega
    case rel =>
     have h1 := HK.out
     have h2 := K5.out
     refine ⟨k + 1, by omega, by go_num, Lib.hid (fun j h hj => ?_), by trivial⟩
     by_cases hjk : j = k
     ·
      subst hjk
      rw [HCL.out h, HX.out]
      exact HZ.out
     · exact HA.out j h (by omega)
   | false =>
    have e := nameL_stop s.data.toList k HA.out (by rw [data_length]; exact hk) (fun h => by rw [hcl h, hx]; exact hz)
    have hn : namedF s = if x = 58 then k else 0 := by
     unfold namedF
     rw [e, hc]
     simp only
     by_cases h58 : c.toNat = 58
     · rw [if_pos h58, if_pos (by omega)]
     · rw [if_neg h58, if_neg (by omega)]
    by_cases h58 : x = 58
    ·
     subst h58
     rw [if_pos rfl] at hn
     have HN := Lib.hid hn
     clear hc hx hz hcl hk k5 e hn
     go_wp2_with (first | (go_at_call 76; refine (HL2.out _).mono ?_; rintro e w1 ⟨rfl, rfl⟩))
     go_ret
     rw [HN.out]
     exact ⟨rfl, rfl⟩
    ·
     rw [if_neg h58] at hn
     have HN := Lib.hid hn
     have h58' : (x != 58) = true := by simpa using h58
     clear hc hx hz hcl hk k5 e hn
     go_wp2_with (first | (go_at_call 76; refine (HL2.out _).mono ?_; rintro e w1 ⟨rfl, rfl⟩))
     go_ret
     rw [HN.out]
     exact ⟨rfl, rfl⟩
def codeOk : List UInt8 → Bool
 | a :: b :: _ => decide (0 ≤ hexD a) && decide (0 ≤ hexD b)
 | _ => false
def codeV : List UInt8 → UInt8
 | a :: b :: _ => (hexD a * 16 + hexD b).toNat.toUInt8
 | _ => 0
def endL : List UInt8 → Int × Bool
 | [] => (0, true)
 | c :: r => if c.toNat = 10 then (1, true) else if Lib.hasPrefix (c :: r) [13, 10] = true then (2, true) else (0, false)
theorem list_two (r : ByteArray) (h : 2 ≤ r.size) : ∃ a b, r.data.toList = a :: b :: r.data.toList.drop 2 ∧ (∀ h : 0 < r.size, ((r[0]'h).toNat : Int) = (a.toNat : Int)) ∧ (∀ h : 1 < r.size, ((r[1]'h).toNat : Int) = (b.toNat : Int)) := by
 obtain ⟨a, ha, hab⟩ := cons_at r 0 (by omega)
 obtain ⟨b, hb, hbc⟩ := cons_at r 1 (by omega)
 rw [List.drop_zero, hb] at ha
 exact ⟨a, b, ha, hab, hbc⟩
theorem list_few (r : ByteArray) (h : r.size < 2) : codeOk r.data.toList = false := by
 have hl2 : r.data.toList.length < 2 := by rw [data_length]; exact h
 match hh : r.data.toList, hl2 with
 | [], _ => rfl
 | [_], _ => rfl
theorem code_any (r : ByteArray) (w : World) : Calls Tryz.prog 125 #[.string r] w fun e w' => (∃ v : Int, e = .returned (.tuple #[.int .u8 v, .bool (codeOk r.data.toList)]) ∧ (codeOk r.data.toList = true → v = ((codeV r.data.toList).toNat : Int))) ∧ ∃ n, w' = w.drewN n := by
 by_cases hsm : r.size < 2
 ·
  have hsi : decide ((r.size : Int) < 2) = true := decide_eq_true (by omega)
  rw [list_few r hsm]
  go_enter Tryz.func125, Tryz.ntmps125
  go_wp2
  go_ret2
  exact ⟨⟨0, rfl, fun h => by cases h⟩, 0, rfl⟩
 ·
  have hsi : decide ((r.size : Int) < 2) = false := decide_eq_false (by omega)
  obtain ⟨a, b, ha, hab, hbc⟩ := list_two r (by omega)
  obtain ⟨xa, hxa⟩ : ∃ x : Int, (a.toNat : Int) = x := ⟨_, rfl⟩
  obtain ⟨xb, hxb⟩ : ∃ x : Int, (b.toNat : Int) = x := ⟨_, rfl⟩
  have DG := Lib.hid digZ160
  rw [hxa] at hab
  rw [hxb] at hbc
  have ba0 : 0 ≤ xa := by omega
  have ba1 : xa < 256 := by have := a.toNat_lt; omega
  have bb0 : 0 ≤ xb := by omega
  have bb1 : xb < 256 := by have := b.toNat_lt; omega
  have hza := hexZ_of a
  have hzb := hexZ_of b
  rw [hxa] at hza
  rw [hxb] at hzb
  have g1 : (0 : Int) < (r.size : Int) := by omega
  have g2 : (1 : Int) < (r.size : Int) := by omega
  have hra := hexD_range a
  have hrb := hexD_range b
  have hok : codeOk r.data.toList = (decide (0 ≤ hexD a) && decide (0 ≤ hexD b)) := by rw [ha]; rfl
  have hv : codeV r.data.toList = (hexD a * 16 + hexD b).toNat.toUInt8 := by rw [ha]; rfl
  obtain ⟨da, hda⟩ : ∃ d, hexD a = d := ⟨_, rfl⟩
  obtain ⟨db, hdb⟩ : ∃ d, hexD b = d := ⟨_, rfl⟩
  rw [hda] at hra hza hok hv
  rw [hdb] at hrb hzb hok hv
  rw [hok, hv]
  have HRA := Lib.hid hra
  have HRB := Lib.hid hrb
  clear hsm hxa hxb hda hdb ha hok hv hra hrb
  by_cases hna : 0 ≤ da
  ·
   have hna' : decide (0 ≤ da) = true := decide_eq_true hna
   by_cases hnb : 0 ≤ db
   ·
    have hnb' : decide (0 ≤ db) = true := decide_eq_true hnb
    have hj : bits .or .i64 (wrap64 (da * 16)) db = da * 16 + db := bytes_join da db hna HRA.out.2 hnb HRB.out.2
    have hw1 : wrap64 (da * 16) = da * 16 := by have := HRA.out; unfold wrap64; omega
    rw [hw1] at hj
    obtain ⟨y, hy⟩ : ∃ y, da * 16 + db = y := ⟨_, rfl⟩
    rw [hy] at hj
    have hy0 : 0 ≤ y ∧ y < 256 := by have := HRA.out; have := HRB.out; omega
    rw [hy]
    have HY0 := Lib.hid hy0
    have hda15 : da ≤ 15 := HRA.out.2
    have hy8 : y % 256 = y := by omega
    clear hy hy0
    rw [show (decide (0 ≤ da) && decide (0 ≤ db)) = true by rw [hna', hnb']; rfl]
    go_enter Tryz.func125, Tryz.ntmps125
    go_wp2
    go_quiet (first | (go_at_call 160; refine Calls.quiet_of_same (DG.out _ ?_ ?_ _); (first | exact ba0 | exact bb0); (first | exact ba1 | exact bb1)))
    go_wp2
    go_ret2
    refine ⟨⟨y, rfl, fun _ => ?_⟩, _, rfl⟩
    have := HY0.out
    simp
    omega
   ·
    have hnb' : decide (0 ≤ db) = false := decide_eq_false hnb
    rw [show (decide (0 ≤ da) && decide (0 ≤ db)) = false by rw [hna', hnb']; rfl]
    go_enter Tryz.func125, Tryz.ntmps125
    go_wp2
    go_quiet (first | (go_at_call 160; refine Calls.quiet_of_same (DG.out _ ?_ ?_ _); (first | exact ba0 | exact bb0); (first | exact ba1 | exact bb1)))
    go_wp2
    go_ret2
    exact ⟨⟨_, rfl, fun h => by cases h⟩, _, rfl⟩
  ·
   have hna' : decide (0 ≤ da) = false := decide_eq_false hna
   rw [show (decide (0 ≤ da) && decide (0 ≤ db)) = false by rw [hna']; rfl]
   go_enter Tryz.func125, Tryz.ntmps125
   go_wp2
   go_quiet (first | (go_at_call 160; refine Calls.quiet_of_same (DG.out _ ?_ ?_ _); (first | exact ba0 | exact bb0); (first | exact ba1 | exact bb1)))
   go_wp2
   go_ret2
   exact ⟨⟨_, rfl, fun h => by cases h⟩, _, rfl⟩
theorem end_any (r : ByteArray) (w : World) : Calls Tryz.prog 126 #[.string r] w fun e w' => e = .returned (.tuple #[.int .i64 (endL r.data.toList).1, .bool (endL r.data.toList).2]) ∧ w = w' := by
 cases e : r.toList.isEmpty with
 | true =>
  have h0 : r.size = 0 := by rw [empty_of] at e; exact of_decide_eq_true e
  have hr : r.data.toList = [] := List.eq_nil_of_length_eq_zero (by rw [data_length]; exact h0)
  rw [hr]
  clear h0 hr
  go_enter Tryz.func126, Tryz.ntmps126
  go_wp2
  go_ret2
  exact ⟨rfl, rfl⟩
 | false =>
  have h0 : 0 < r.size := by
   rw [empty_of] at e
   have := of_decide_eq_false e
   omega
  have h0i : (0 : Int) < (r.size : Int) := by omega
  obtain ⟨c, hc, hb⟩ := cons_of r h0
  obtain ⟨x, hx⟩ : ∃ x : Int, (c.toNat : Int) = x := ⟨_, rfl⟩
  rw [hx] at hb
  have HP := Tryz.strings_HasPrefix r ⟨#[13, 10]⟩ w
  have hend : endL r.data.toList = if x = 10 then (1, true) else if Lib.hasPrefix r.data.toList [13, 10] = true then (2, true) else (0, false) := by
   rw [hc]
   have hxx : (c.toNat = 10) = (x = 10) := propext ⟨fun h => by omega, fun h => by omega⟩
   simp only [endL, hxx]
  rw [hend]
  obtain ⟨p, hp⟩ : ∃ p, Lib.hasPrefix r.data.toList [13, 10] = p := ⟨_, rfl⟩
  rw [show Lib.hasPrefix r.data.toList (⟨#[13, 10]⟩ : ByteArray).data.toList = p from hp] at HP
  rw [hp]
  have HPP := Lib.hid HP
  clear HP hend hp hc hx h0
  by_cases h10 : x = 10
  ·
   subst h10
   rw [if_pos rfl]
   go_enter Tryz.func126, Tryz.ntmps126
   go_wp2
   go_ret2
   exact ⟨rfl, rfl⟩
  ·
   have h10' : (x == 10) = false := by simpa using h10
   rw [if_neg h10]
   cases p with
   | true =>
    go_enter Tryz.func126, Tryz.ntmps126
    go_wp2_with (first | (go_at_call 52; refine HPP.out.mono ?_; rintro e w1 ⟨rfl, rfl⟩))
    go_ret2
    exact ⟨rfl, rfl⟩
   | false =>
    go_enter Tryz.func126, Tryz.ntmps126
    go_wp2_with (first | (go_at_call 52; refine HPP.out.mono ?_; rintro e w1 ⟨rfl, rfl⟩))
    go_ret2
    exact ⟨rfl, rfl⟩
def fq : Nat → List UInt8 → List UInt8 × Nat
 | _, [] => ([], 0)
 | 0, _ :: _ => ([], 0)
 | m + 1, c :: r =>
  if c.toNat = 61 then
   if codeOk r = true then (codeV r :: (fq m (r.drop 2)).1, (fq m (r.drop 2)).2)
   else if (endL r).2 = true then fq m (r.drop (endL r).1.toNat)
   else (c :: (fq m r).1, (fq m r).2 + 1)
  else if (c.toNat = 32 ∨ c.toNat = 9) ∧ (endL (Lib.trimLeftS (c :: r) [32, 9])).2 = true then fq m (Lib.trimLeftS (c :: r) [32, 9])
  else (c :: (fq m r).1, (fq m r).2)
def fromQuotedF (s : ByteArray) : ByteArray × Int := (⟨(fq s.size s.data.toList).1.toArray⟩, ((fq s.size s.data.toList).2 : Int))
def upon (o : List UInt8) (nb : Nat) (p : List UInt8 × Nat) : List UInt8 × Nat := (o ++ p.1, nb + p.2)
theorem codeOk_len (l : List UInt8) (h : codeOk l = true) : 2 ≤ l.length := by
 match l, h with
 | _ :: _ :: _, _ => simp
theorem endL_ways (l : List UInt8) : endL l = (0, true) ∨ (endL l = (1, true) ∧ 1 ≤ l.length) ∨ (endL l = (2, true) ∧ 2 ≤ l.length) ∨ endL l = (0, false) := by
 match l with
 | [] => exact .inl rfl
 | c :: r =>
  unfold endL
  simp only
  split
  · exact .inr (.inl ⟨rfl, by simp⟩)
  ·
   split
   ·
    rename_i h
    refine .inr (.inr (.inl ⟨rfl, ?_⟩))
    cases r with
    | nil => revert h; unfold Lib.hasPrefix; simp
    | cons d q => simp
   · exact .inr (.inr (.inr rfl))
theorem ext_list (r : ByteArray) (c : UInt8) (l : List UInt8) (h : r.data.toList = c :: l) (k : Nat) : (r.extract (k + 1) r.size).data.toList = l.drop k := by
 rw [Lib.extract_to_end, h]
 rfl
theorem info5 : (Tryz.prog.info? 5).map (fun i => (i.zero, i.size, i.bytes)) = some (some (.int .u8 0), 1, 1) := by kernel_rfl
structure Laid (W : World) (o : Obj) (X : World) : Prop where
 os : X.os = W.os
 tape : X.tape = W.tape
 output : X.output = W.output
 heap : X.heap = W.heap.push o
theorem Laid.below {B : Nat} {w W X : World} {o : Obj} (q : Laid W o X) (h : Below B w W) (hB : B ≤ W.heap.size) : Below B w X := by
 have k := h.alloc hB o
 exact ⟨q.os.trans k.os, q.tape.trans k.tape, q.output.trans k.output, by rw [q.heap]; exact k.size, fun i hi => by rw [q.heap]; exact k.block i hi⟩
theorem below_app {w W X w9 : World} {row : Option Nat} (h : Below w.heap.size w W) (hg : X.grownBy w9 row) (hX : ∃ o : Obj, Laid W o X) (hr : ∀ k, row = some k → w.heap.size ≤ k) : Below w.heap.size w w9 := by
 obtain ⟨o, q⟩ := hX
 exact (q.below h h.size).grown hg (by have := (q.below h h.size).size; exact this) hr
theorem bytes_string (o : List UInt8) : strOfNums (o.map fun b => (b.toNat : Int)) = ⟨o.toArray⟩ := by
 unfold strOfNums
 congr 2
 rw [List.map_map]
 conv => rhs; rw [← List.map_id o]
 apply List.map_congr_left
 intro b _
 simp
theorem bytes_nums (o : List UInt8) : Lib.byteCells o = nums .u8 (o.map fun b => (b.toNat : Int)) := by simp [Lib.byteCells, nums]
def FqJ (s : ByteArray) (w : World) (B : Nat) (a' : Act) (w' : World) : Prop :=
 ∃ (r : ByteArray) (m nb : Nat) (o : List UInt8) (v : Value) (u1 u6 u7 u8 u9 u10 u11 u12 u13 u14 u15 u16 u17 u18 u19 u20 u21 u22 u23 u24 u25 u26 u27 u28 u29 u30 u31 u32 u33 u34 u35 u36 u37 u38 u39 u40 u41 u42 u43 u44 u45 u46 u47 u48 u49 u50 u51 u52 u53 u54 u55 u56 u57 u58 u59 u60 u61 u62 u63 u64 u65 u66 u67 u68 u69 : Value), a' = { tmps := #[.string r, u1, .string ⟨#[]⟩, .int .i64 0, v, .int .i64 (nb : Int), u6, u7, u8, u9, u10, u11, u12, u13, u14, u15, u16, u17, u18, u19, u20, u21, u22, u23, u24, u25, u26, u27, u28, u29, u30, u31, u32, u33, u34, u35, u36, u37, u38, u39, u40, u41, u42, u43, u44, u45, u46, u47, u48, u49, u50, u51, u52, u53, u54, u55, u56, u57, u58, u59, u60, u61, u62, u63, u64, u65, u66, u67, u68, u69], defers := [] } ∧
  Hid (fq s.size s.data.toList = upon o nb (fq m r.data.toList)) ∧ Hid (r.size ≤ m) ∧ Hid (o.length + m ≤ s.size) ∧ Hid (nb + m ≤ s.size) ∧ Hid (w'.ownsRow B 5 1 v o.length (Lib.byteCells o)) ∧ Hid (Below B w w')
theorem fromQuoted_any (s : ByteArray) (w : World) (hs : s.size ≤ 17592186044416) :
  Calls Tryz.prog 93 #[.string s] w fun e w' => e = .returned (.tuple #[.string (fromQuotedF s).1, .int .i64 (fromQuotedF s).2]) ∧ Below w.heap.size w w' := by
 have HL := Lib.hid hs
 obtain ⟨i0, hi0, hz0, hz1, hz2⟩ := info_parts info5
 obtain ⟨wm, hmk, hmo, hmg⟩ := run_make_own (P := Tryz.prog) w w.heap.size 66 5 i0 (.int .u8 0) 1 Tryz.underlying66 hi0 hz0 hz1 .i64 .i64 s.size (by rw [hz2]; omega) (by unfold maxLen; omega) (Nat.le_refl _)
 have HMO := Lib.hid hmo
 have HMG := Lib.hid hmg
 clear hs hmo hmg
 go_enter Tryz.func93, Tryz.ntmps93
 go_wp2
 refine scope_label 0 (FqJ s w w.heap.size) (fun a' _ => leftOf a') rfl ?pass ?first
 case first =>
  intro hp
  have HP := Lib.hid hp
  clear hp
  go_wp2
  rename_i hK
  refine wp_label (hK _ _ (HP.out _ _ ?_))
  exact ⟨s, s.size, 0, [], .slice (some ⟨w.heap.size, 0, none⟩) 0 s.size, _, _, _, _, _, _, _, _, _, _, _, _, _, _, _, _, _, _, _, _, _, _, _, _, _, _, _, _, _, _, _, _, _, _, _, _, _, _, _, _, _, _, _, _, _, _, _, _, _, _, _, _, _, _, _, _, _, _, _, _, _, _, _, _, _, rfl, Lib.hid (by simp [upon]), Lib.hid (Nat.le_refl _), Lib.hid (by simp), Lib.hid (by simp), Lib.hid HMO.out, Lib.hid ((Below.refl w.heap.size w).grown HMG.out (Nat.le_refl _) (fun k hk => by cases hk))⟩
 case pass =>
  clear hmk HMO HMG
  rintro a' wr ⟨r, m, nb, o, v, u1, u6, u7, u8, u9, u10, u11, u12, u13, u14, u15, u16, u17, u18, u19, u20, u21, u22, u23, u24, u25, u26, u27, u28, u29, u30, u31, u32, u33, u34, u35, u36, u37, u38, u39, u40, u41, u42, u43, u44, u45, u46, u47, u48, u49, u50, u51, u52, u53, u54, u55, u56, u57, u58, u59, u60, u61, u62, u63, u64, u65, u66, u67, u68, u69, rfl, HG, HM, HA, HN, HR, HB⟩
  cases e : r.toList.isEmpty with
  | true =>
   have h0 : r.size = 0 := by rw [empty_of] at e; exact of_decide_eq_true e
   have hr : r.data.toList = [] := List.eq_nil_of_length_eq_zero (by rw [data_length]; exact h0)
   have HF := Lib.hid (show fq s.size s.data.toList = (o, nb) by rw [HG.out, hr]; unfold fq; simp [upon])
   have hcv := own_string (P := Tryz.prog) (src := 66) (dst := 9) (e := 5) Tryz.underlying66 Tryz.underlying5 Tryz.underlying9 (xs := o.map fun b => (b.toNat : Int)) (by have := HR.out; rwa [bytes_nums] at this)
   rw [bytes_string] at hcv
   clear h0 hr
   go_wp2
   simp only [Exit.jump]
   go_ret2
   unfold fromQuotedF
   rw [HF.out]
   exact ⟨rfl, HB.out⟩
  | false =>
   have h0 : 0 < r.size := by
    rw [empty_of] at e
    have := of_decide_eq_false e
    omega
   have h0i : (1 : Int) ≤ (r.size : Int) := by omega
   obtain ⟨m, rfl⟩ : ∃ n, m = n + 1 := ⟨m - 1, by have := HM.out; omega⟩
   obtain ⟨c, hc, hb⟩ := cons_of r h0
   obtain ⟨r1, hr1⟩ : ∃ r1, r.extract 1 r.size = r1 := ⟨_, rfl⟩
   have hs1 : r1.size = r.size - 1 := by rw [← hr1]; exact ext_size r 1 h0
   rw [hr1] at hc
   obtain ⟨x, hx⟩ : ∃ x : Int, (c.toNat : Int) = x := ⟨_, rfl⟩
   rw [hx] at hb
   have HS1 := Lib.hid hs1
   have HLN := Lib.hid (show o.length + 1 ≤ maxLen ∧ (o.length + 1) * 1 ≤ 140737488355328 by have := HA.out; have := HL.out; unfold maxLen; omega)
   have HX := Lib.hid hx
   have H0 := Lib.hid h0
   clear hx hs1
   have h0n : 0 < r.size := h0
   by_cases h61 : x = 61
   ·
    subst h61
    have HC := Lib.hid (fun W => code_any r1 W)
    have HN1 := Lib.hid (fun W => end_any r1 W)
    have hfq : fq (m + 1) r.data.toList = if codeOk r1.data.toList = true then (codeV r1.data.toList :: (fq m (r1.data.toList.drop 2)).1, (fq m (r1.data.toList.drop 2)).2)
      else if (endL r1.data.toList).2 = true then fq m (r1.data.toList.drop (endL r1.data.toList).1.toNat) else (c :: (fq m r1.data.toList).1, (fq m r1.data.toList).2 + 1) := by
     have hx := HX.out
     rw [hc]; simp only [fq]; rw [if_pos (by omega)]
    have hex := ext_list r c _ hc
    obtain ⟨ok, hok⟩ : ∃ b, codeOk r1.data.toList = b := ⟨_, rfl⟩
    obtain ⟨cv, hcv⟩ : ∃ b, codeV r1.data.toList = b := ⟨_, rfl⟩
    rw [hok, hcv] at hfq
    rw [hok, hcv] at HC
    cases ok with
    | true =>
     have hl2 := codeOk_len _ hok
     rw [data_length] at hl2
     obtain ⟨r3, hr3⟩ : ∃ r3, r.extract 3 r.size = r3 := ⟨_, rfl⟩
     have hs3 : r3.size = r.size - 3 := by rw [← hr3]; exact ext_size r 3 (by have := HS1.out; omega)
     have h3i : (3 : Int) ≤ (r.size : Int) := by have := HS1.out; omega
     have HS3 := Lib.hid (And.intro hs3 hl2)
     have HE := Lib.hid (show fq (m + 1) r.data.toList = (cv :: (fq m r3.data.toList).1, (fq m r3.data.toList).2) by
      have h := hex 2
      rw [hr3] at h
      rw [hfq, if_pos rfl, h])
     obtain ⟨y, hy⟩ : ∃ y : Int, (cv.toNat : Int) = y := ⟨_, rfl⟩
     rw [hy] at HC
     have HY := Lib.hid hy
     clear hfq hex hc hok hcv hl2 hs3 hy
     go_wp2_with (first | (go_at_call 125; refine (HC.out _).mono ?_; rintro e w1 ⟨⟨z, rfl, hz⟩, n, rfl⟩; obtain rfl := hz rfl))
     (go_region_law (refine step_append_lies _ rfl (.tmp 32) (.tmp 34) 66 rfl w.heap.size 5 i0 (.int .u8 0) 1 1 Tryz.underlying66 hi0 hz0 hz1 hz2 rfl (by decide) v o.length (Lib.byteCells o) rfl ?hown _ 1 1 [.int .u8 z] rfl rfl ?hnews ?hone (by decide) ?h63 ?hby ?hbase _ rfl ?_; (case hown => exact own_alloc HR.out _); (case hnews => exact (World.news_of_block (cs := #[.int .u8 z]) (t := 5) (fr := (0, 0)) (heap_alloc_new _ _))); (case hone => (intro u hu; simp at hu; subst hu; rfl)); (case h63 => exact HLN.out.1); (case hby => exact HLN.out.2); (case hbase => (have := HB.out.size; simp; omega)); intro g cap w9 hown hgrow hat hlt; have HO := Lib.hid hown; have HGR := Lib.hid hgrow; clear hown hgrow hat hlt))
     all_goals (
      go_wp2_with fail
      go_step3
      refine ⟨rfl, ⟨r3, m, nb, o ++ [cv], _, _, _, _, _, _, _, _, _, _, _, _, _, _, _, _, _, _, _, _, _, _, _, _, _, _, _, _, _, _, _, _, _, _, _, _, _, _, _, _, _, _, _, _, _, _, _, _, _, _, _, _, _, _, _, _, _, _, _, _, _, _, _, _, _, _, rfl, Lib.hid ?_, Lib.hid ?_, Lib.hid ?_, Lib.hid ?_, Lib.hid ?_, Lib.hid ?_⟩, ?_⟩
      · rw [HG.out, HE.out]; simp [upon]
      · have := HM.out; have := HS1.out; have := H0.out; have := HS3.out.1; have := HS3.out.2; omega
      · have := HA.out; simp; omega
      · have := HN.out; omega
      ·
       have h := HO.out
       rw [Lib.byteCells_append, ← bcell, HY.out, List.length_append]
       exact h
      · exact below_app HB.out HGR.out ⟨_, ⟨rfl, rfl, rfl, rfl⟩⟩ (fun k hk => own_base HR.out k hk)
      ·
       show r3.size < r.size
       have := HS1.out; have := H0.out; have := HS3.out.1; have := HS3.out.2; omega
     )
    | false =>
     rw [if_neg (by decide)] at hfq
     rcases endL_ways r1.data.toList with he | ⟨he, hl⟩ | ⟨he, hl⟩ | he
     ·
      rw [he] at HN1 hfq
      have hs3 := HS1.out
      have HE := Lib.hid (show fq (m + 1) r.data.toList = fq m r1.data.toList by rw [hfq]; rfl)
      have HS3 := Lib.hid hs3
      clear hfq hex hc hok hcv he hs3
      go_wp2_with (first | (go_at_call 125; refine (HC.out _).mono ?_; rintro e w1 ⟨⟨z, rfl, hz⟩, n, rfl⟩; clear hz) | (go_at_call 126; refine (HN1.out _).mono ?_; rintro e w2 ⟨rfl, rfl⟩))
      go_step3
      refine ⟨rfl, ⟨r1, m, nb, o, v, _, _, _, _, _, _, _, _, _, _, _, _, _, _, _, _, _, _, _, _, _, _, _, _, _, _, _, _, _, _, _, _, _, _, _, _, _, _, _, _, _, _, _, _, _, _, _, _, _, _, _, _, _, _, _, _, _, _, _, _, _, _, _, _, _, rfl, Lib.hid ?_, Lib.hid ?_, Lib.hid ?_, Lib.hid ?_, Lib.hid HR.out, Lib.hid (pw_below_drewN HB.out _)⟩, ?_⟩
      · rw [HG.out, HE.out]
      · have := HM.out; have := HS3.out; have := H0.out; omega
      · have := HA.out; omega
      · have := HN.out; omega
      ·
       show r1.size < r.size
       have := HS3.out; have := H0.out; omega
     ·
      rw [he] at HN1 hfq
      rw [data_length] at hl
      obtain ⟨r3, hr3⟩ : ∃ r3, r.extract 2 r.size = r3 := ⟨_, rfl⟩
      have hs3 : r3.size = r.size - 2 := by rw [← hr3]; exact ext_size r 2 (by have := HS1.out; omega)
      have h3i : (2 : Int) ≤ (r.size : Int) := by have := HS1.out; omega
      have HE := Lib.hid (show fq (m + 1) r.data.toList = fq m r3.data.toList by
       have h := hex 1
       rw [hr3] at h
       rw [hfq, h]; rfl)
      have HS3 := Lib.hid hs3
      clear hfq hex hc hok hcv he hs3
      go_wp2_with (first | (go_at_call 125; refine (HC.out _).mono ?_; rintro e w1 ⟨⟨z, rfl, hz⟩, n, rfl⟩; clear hz) | (go_at_call 126; refine (HN1.out _).mono ?_; rintro e w2 ⟨rfl, rfl⟩))
      go_step3
      refine ⟨rfl, ⟨r3, m, nb, o, v, _, _, _, _, _, _, _, _, _, _, _, _, _, _, _, _, _, _, _, _, _, _, _, _, _, _, _, _, _, _, _, _, _, _, _, _, _, _, _, _, _, _, _, _, _, _, _, _, _, _, _, _, _, _, _, _, _, _, _, _, _, _, _, _, _, rfl, Lib.hid ?_, Lib.hid ?_, Lib.hid ?_, Lib.hid ?_, Lib.hid HR.out, Lib.hid (pw_below_drewN HB.out _)⟩, ?_⟩
      · rw [HG.out, HE.out]
      · have := HM.out; have := HS3.out; have := H0.out; omega
      · have := HA.out; omega
      · have := HN.out; omega
      ·
       show r3.size < r.size
       have := HS3.out; have := H0.out; omega
     ·
      rw [he] at HN1 hfq
      rw [data_length] at hl
      obtain ⟨r3, hr3⟩ : ∃ r3, r.extract 3 r.size = r3 := ⟨_, rfl⟩
      have hs3 : r3.size = r.size - 3 := by rw [← hr3]; exact ext_size r 3 (by have := HS1.out; omega)
      have h3i : (3 : Int) ≤ (r.size : Int) := by have := HS1.out; omega
      have HE := Lib.hid (show fq (m + 1) r.data.toList = fq m r3.data.toList by
       have h := hex 2
       rw [hr3] at h
       rw [hfq, h]; rfl)
      have HS3 := Lib.hid hs3
      clear hfq hex hc hok hcv he hs3
      go_wp2_with (first | (go_at_call 125; refine (HC.out _).mono ?_; rintro e w1 ⟨⟨z, rfl, hz⟩, n, rfl⟩; clear hz) | (go_at_call 126; refine (HN1.out _).mono ?_; rintro e w2 ⟨rfl, rfl⟩))
      go_step3
      refine ⟨rfl, ⟨r3, m, nb, o, v, _, _, _, _, _, _, _, _, _, _, _, _, _, _, _, _, _, _, _, _, _, _, _, _, _, _, _, _, _, _, _, _, _, _, _, _, _, _, _, _, _, _, _, _, _, _, _, _, _, _, _, _, _, _, _, _, _, _, _, _, _, _, _, _, _, rfl, Lib.hid ?_, Lib.hid ?_, Lib.hid ?_, Lib.hid ?_, Lib.hid HR.out, Lib.hid (pw_below_drewN HB.out _)⟩, ?_⟩
      · rw [HG.out, HE.out]
      · have := HM.out; have := HS3.out; have := H0.out; omega
      · have := HA.out; omega
      · have := HN.out; omega
      ·
       show r3.size < r.size
       have := HS3.out; have := H0.out; omega
     ·
      rw [he] at HN1 hfq
      have HE := Lib.hid (show fq (m + 1) r.data.toList = (c :: (fq m r1.data.toList).1, (fq m r1.data.toList).2 + 1) by rw [hfq]; rfl)
      have hnb : (nb : Int) ≤ 17592186044416 := by have := HN.out; have := HL.out; omega
      clear hfq hex hc hok hcv he
      go_wp2_with (first | (go_at_call 125; refine (HC.out _).mono ?_; rintro e w1 ⟨⟨z, rfl, hz⟩, n, rfl⟩; clear hz) | (go_at_call 126; refine (HN1.out _).mono ?_; rintro e w2 ⟨rfl, rfl⟩))
      (go_region_law (refine step_append_lies _ rfl (.tmp 63) (.tmp 66) 66 rfl w.heap.size 5 i0 (.int .u8 0) 1 1 Tryz.underlying66 hi0 hz0 hz1 hz2 rfl (by decide) v o.length (Lib.byteCells o) rfl ?hown _ 1 1 [.int .u8 61] rfl rfl ?hnews ?hone (by decide) ?h63 ?hby ?hbase _ rfl ?_; (case hown => exact own_alloc HR.out _); (case hnews => exact (World.news_of_block (cs := #[.int .u8 61]) (t := 5) (fr := (0, 0)) (heap_alloc_new _ _))); (case hone => (intro u hu; simp at hu; subst hu; rfl)); (case h63 => exact HLN.out.1); (case hby => exact HLN.out.2); (case hbase => (have := HB.out.size; simp; omega)); intro g cap w9 hown hgrow hat hlt; have HO := Lib.hid hown; have HGR := Lib.hid hgrow; clear hown hgrow hat hlt))
      all_goals (
       go_wp2_with fail
       go_step3
       refine ⟨rfl, ⟨r1, m, (nb + 1), o ++ [c], _, _, _, _, _, _, _, _, _, _, _, _, _, _, _, _, _, _, _, _, _, _, _, _, _, _, _, _, _, _, _, _, _, _, _, _, _, _, _, _, _, _, _, _, _, _, _, _, _, _, _, _, _, _, _, _, _, _, _, _, _, _, _, _, _, _, rfl, Lib.hid ?_, Lib.hid ?_, Lib.hid ?_, Lib.hid ?_, Lib.hid ?_, Lib.hid ?_⟩, ?_⟩
       · rw [HG.out, HE.out]; simp [upon]; omega
       · have := HM.out; have := HS1.out; have := H0.out; omega
       · have := HA.out; simp; omega
       · have := HN.out; omega
       ·
        have h := HO.out
        rw [Lib.byteCells_append, ← bcell, HX.out, List.length_append]
        exact h
       · exact below_app HB.out HGR.out ⟨_, ⟨rfl, rfl, rfl, rfl⟩⟩ (fun k hk => own_base HR.out k hk)
       ·
        show r1.size < r.size
        have := HS1.out; have := H0.out; omega
      )
   ·
    have h61' : (x == 61) = false := by simpa using h61
    by_cases hbl : x = 32 ∨ x = 9
    ·
     obtain ⟨t, ht⟩ : ∃ t : ByteArray, (⟨(Lib.trimLeftS r.data.toList [32, 9]).toArray⟩ : ByteArray) = t := ⟨_, rfl⟩
     have htl : Lib.trimLeftS r.data.toList [32, 9] = t.data.toList := by rw [← ht]
     have HT0 := Tryz.strings_TrimLeft_laid r ⟨#[32, 9]⟩ wr (by decide) (by decide)
     rw [show (⟨(Lib.trimLeftS r.data.toList (⟨#[32, 9]⟩ : ByteArray).data.toList).toArray⟩ : ByteArray) = t from ht] at HT0
     have HT := Lib.hid HT0
     have HN1 := Lib.hid (fun W => end_any t W)
     have htz : t.size ≤ r1.size := by
      have h1 : t.size = (Lib.trimLeftS r.data.toList [32, 9]).length := by rw [← ht]; exact mk_size _
      rw [h1, hc]
      unfold Lib.trimLeftS
      have hcon : ([32, 9] : List UInt8).contains c = true := by
       have hx := HX.out
       have : c = 32 ∨ c = 9 := by
        rcases hbl with h | h
        · exact .inl (UInt8.toNat_inj.1 (by rw [show (32 : UInt8).toNat = 32 from rfl]; omega))
        · exact .inr (UInt8.toNat_inj.1 (by rw [show (9 : UInt8).toNat = 9 from rfl]; omega))
       rcases this with rfl | rfl <;> decide
      rw [List.dropWhile_cons, if_pos hcon, ← data_length r1]
      exact (List.dropWhile_sublist _).length_le
     have hfq : fq (m + 1) r.data.toList = if (endL t.data.toList).2 = true then fq m t.data.toList else (c :: (fq m r1.data.toList).1, (fq m r1.data.toList).2) := by
      have hx := HX.out
      rw [← htl, hc]; simp only [fq]; rw [if_neg (by omega)]
      by_cases h : (endL (Lib.trimLeftS (c :: r1.data.toList) [32, 9])).2 = true
      · rw [if_pos ⟨by omega, h⟩, if_pos h]
      · rw [if_neg (fun q => h q.2), if_neg h]
     have HTZ := Lib.hid htz
     have hsw : (x == 32) = true ∨ (x == 32) = false ∧ (x == 9) = true := by
      rcases hbl with h | h
      · exact .inl (by simp [h])
      · exact .inr ⟨by simp [h], by simp [h]⟩
     obtain ⟨en, hen⟩ : ∃ q, endL t.data.toList = q := ⟨_, rfl⟩
     rw [hen] at HN1 hfq
     obtain ⟨e1, e2⟩ := en
     simp only at HN1 hfq
     clear ht htl HT0 hc htz hen h61
     cases e2 with
     | true =>
      have HE := Lib.hid (show fq (m + 1) r.data.toList = fq m t.data.toList by rw [hfq, if_pos rfl])
      clear hfq hbl
      rcases hsw with hw1 | ⟨hw1, hw2⟩
      ·
       go_wp2_with (first | (go_at_call 127; refine HT.out.mono ?_; rintro e w3 ⟨rfl, hb3⟩; have HB3 := Lib.hid hb3; clear hb3) | (go_at_call 126; refine (HN1.out _).mono ?_; rintro e w2 ⟨rfl, rfl⟩))
       go_step3
       refine ⟨rfl, ⟨t, m, nb, o, v, _, _, _, _, _, _, _, _, _, _, _, _, _, _, _, _, _, _, _, _, _, _, _, _, _, _, _, _, _, _, _, _, _, _, _, _, _, _, _, _, _, _, _, _, _, _, _, _, _, _, _, _, _, _, _, _, _, _, _, _, _, _, _, _, _, rfl, Lib.hid ?_, Lib.hid ?_, Lib.hid ?_, Lib.hid ?_, Lib.hid (pw_own_below HR.out HB3.out), Lib.hid (HB.out.trans (HB3.out.mono HB.out.size))⟩, ?_⟩
       · rw [HG.out, HE.out]
       · have := HM.out; have := HS1.out; have := HTZ.out; have := H0.out; omega
       · have := HA.out; omega
       · have := HN.out; omega
       ·
        show t.size < r.size
        have := HS1.out; have := HTZ.out; have := H0.out; omega
      ·
       go_wp2_with (first | (go_at_call 127; refine HT.out.mono ?_; rintro e w3 ⟨rfl, hb3⟩; have HB3 := Lib.hid hb3; clear hb3) | (go_at_call 126; refine (HN1.out _).mono ?_; rintro e w2 ⟨rfl, rfl⟩))
       go_step3
       refine ⟨rfl, ⟨t, m, nb, o, v, _, _, _, _, _, _, _, _, _, _, _, _, _, _, _, _, _, _, _, _, _, _, _, _, _, _, _, _, _, _, _, _, _, _, _, _, _, _, _, _, _, _, _, _, _, _, _, _, _, _, _, _, _, _, _, _, _, _, _, _, _, _, _, _, _, rfl, Lib.hid ?_, Lib.hid ?_, Lib.hid ?_, Lib.hid ?_, Lib.hid (pw_own_below HR.out HB3.out), Lib.hid (HB.out.trans (HB3.out.mono HB.out.size))⟩, ?_⟩
       · rw [HG.out, HE.out]
       · have := HM.out; have := HS1.out; have := HTZ.out; have := H0.out; omega
       · have := HA.out; omega
       · have := HN.out; omega
       ·
        show t.size < r.size
        have := HS1.out; have := HTZ.out; have := H0.out; omega
     | false =>
      have HE := Lib.hid (show fq (m + 1) r.data.toList = (c :: (fq m r1.data.toList).1, (fq m r1.data.toList).2) by rw [hfq, if_neg (by decide)])
      clear hfq hbl
      rcases hsw with hw1 | ⟨hw1, hw2⟩
      ·
       go_wp2_with (first | (go_at_call 127; refine HT.out.mono ?_; rintro e w3 ⟨rfl, hb3⟩; have HB3 := Lib.hid (HB.out.trans (hb3.mono HB.out.size)); have HR3 := Lib.hid (pw_own_below HR.out hb3); clear hb3) | (go_at_call 126; refine (HN1.out _).mono ?_; rintro e w2 ⟨rfl, rfl⟩))
       (go_region_law (refine step_append_lies _ rfl (.tmp 63) (.tmp 66) 66 rfl w.heap.size 5 i0 (.int .u8 0) 1 1 Tryz.underlying66 hi0 hz0 hz1 hz2 rfl (by decide) v o.length (Lib.byteCells o) rfl ?hown _ 1 1 [.int .u8 x] rfl rfl ?hnews ?hone (by decide) ?h63 ?hby ?hbase _ rfl ?_; (case hown => exact own_alloc HR3.out _); (case hnews => exact (World.news_of_block (cs := #[.int .u8 x]) (t := 5) (fr := (0, 0)) (heap_alloc_new _ _))); (case hone => (intro u hu; simp at hu; subst hu; rfl)); (case h63 => exact HLN.out.1); (case hby => exact HLN.out.2); (case hbase => (have := HB3.out.size; simp; omega)); intro g cap w9 hown hgrow hat hlt; have HO := Lib.hid hown; have HGR := Lib.hid hgrow; clear hown hgrow hat hlt))
       all_goals (
        go_wp2_with fail
        go_step3
        refine ⟨rfl, ⟨r1, m, nb, o ++ [c], _, _, _, _, _, _, _, _, _, _, _, _, _, _, _, _, _, _, _, _, _, _, _, _, _, _, _, _, _, _, _, _, _, _, _, _, _, _, _, _, _, _, _, _, _, _, _, _, _, _, _, _, _, _, _, _, _, _, _, _, _, _, _, _, _, _, rfl, Lib.hid ?_, Lib.hid ?_, Lib.hid ?_, Lib.hid ?_, Lib.hid ?_, Lib.hid ?_⟩, ?_⟩
        · rw [HG.out, HE.out]; simp [upon]
        · have := HM.out; have := HS1.out; have := H0.out; omega
        · have := HA.out; simp; omega
        · have := HN.out; omega
        ·
         have h := HO.out
         rw [Lib.byteCells_append, ← bcell, HX.out, List.length_append]
         exact h
        · exact below_app HB3.out HGR.out ⟨_, ⟨rfl, rfl, rfl, rfl⟩⟩ (fun k hk => own_base HR3.out k hk)
        ·
         show r1.size < r.size
         have := HS1.out; have := H0.out; omega
       )
      ·
       go_wp2_with (first | (go_at_call 127; refine HT.out.mono ?_; rintro e w3 ⟨rfl, hb3⟩; have HB3 := Lib.hid (HB.out.trans (hb3.mono HB.out.size)); have HR3 := Lib.hid (pw_own_below HR.out hb3); clear hb3) | (go_at_call 126; refine (HN1.out _).mono ?_; rintro e w2 ⟨rfl, rfl⟩))
       (go_region_law (refine step_append_lies _ rfl (.tmp 63) (.tmp 66) 66 rfl w.heap.size 5 i0 (.int .u8 0) 1 1 Tryz.underlying66 hi0 hz0 hz1 hz2 rfl (by decide) v o.length (Lib.byteCells o) rfl ?hown _ 1 1 [.int .u8 x] rfl rfl ?hnews ?hone (by decide) ?h63 ?hby ?hbase _ rfl ?_; (case hown => exact own_alloc HR3.out _); (case hnews => exact (World.news_of_block (cs := #[.int .u8 x]) (t := 5) (fr := (0, 0)) (heap_alloc_new _ _))); (case hone => (intro u hu; simp at hu; subst hu; rfl)); (case h63 => exact HLN.out.1); (case hby => exact HLN.out.2); (case hbase => (have := HB3.out.size; simp; omega)); intro g cap w9 hown hgrow hat hlt; have HO := Lib.hid hown; have HGR := Lib.hid hgrow; clear hown hgrow hat hlt))
       all_goals (
        go_wp2_with fail
        go_step3
        refine ⟨rfl, ⟨r1, m, nb, o ++ [c], _, _, _, _, _, _, _, _, _, _, _, _, _, _, _, _, _, _, _, _, _, _, _, _, _, _, _, _, _, _, _, _, _, _, _, _, _, _, _, _, _, _, _, _, _, _, _, _, _, _, _, _, _, _, _, _, _, _, _, _, _, _, _, _, _, _, rfl, Lib.hid ?_, Lib.hid ?_, Lib.hid ?_, Lib.hid ?_, Lib.hid ?_, Lib.hid ?_⟩, ?_⟩
        · rw [HG.out, HE.out]; simp [upon]
        · have := HM.out; have := HS1.out; have := H0.out; omega
        · have := HA.out; simp; omega
        · have := HN.out; omega
        ·
         have h := HO.out
         rw [Lib.byteCells_append, ← bcell, HX.out, List.length_append]
         exact h
        · exact below_app HB3.out HGR.out ⟨_, ⟨rfl, rfl, rfl, rfl⟩⟩ (fun k hk => own_base HR3.out k hk)
        ·
         show r1.size < r.size
         have := HS1.out; have := H0.out; omega
       )
    ·
     have h32' : (x == 32) = false := by simp; omega
     have h9' : (x == 9) = false := by simp; omega
     have HE := Lib.hid (show fq (m + 1) r.data.toList = (c :: (fq m r1.data.toList).1, (fq m r1.data.toList).2) by
      have hx := HX.out
      rw [hc]; simp only [fq]; rw [if_neg (by omega), if_neg (by omega)])
     clear hc h61 hbl
     go_wp2
     (go_region_law (refine step_append_lies _ rfl (.tmp 63) (.tmp 66) 66 rfl w.heap.size 5 i0 (.int .u8 0) 1 1 Tryz.underlying66 hi0 hz0 hz1 hz2 rfl (by decide) v o.length (Lib.byteCells o) rfl ?hown _ 1 1 [.int .u8 x] rfl rfl ?hnews ?hone (by decide) ?h63 ?hby ?hbase _ rfl ?_; (case hown => exact own_alloc HR.out _); (case hnews => exact (World.news_of_block (cs := #[.int .u8 x]) (t := 5) (fr := (0, 0)) (heap_alloc_new _ _))); (case hone => (intro u hu; simp at hu; subst hu; rfl)); (case h63 => exact HLN.out.1); (case hby => exact HLN.out.2); (case hbase => (have := HB.out.size; simp; omega)); intro g cap w9 hown hgrow hat hlt; have HO := Lib.hid hown; have HGR := Lib.hid hgrow; clear hown hgrow hat hlt))
     all_goals (
      go_wp2_with fail
      go_step3
      refine ⟨rfl, ⟨r1, m, nb, o ++ [c], _, _, _, _, _, _, _, _, _, _, _, _, _, _, _, _, _, _, _, _, _, _, _, _, _, _, _, _, _, _, _, _, _, _, _, _, _, _, _, _, _, _, _, _, _, _, _, _, _, _, _, _, _, _, _, _, _, _, _, _, _, _, _, _, _, _, rfl, Lib.hid ?_, Lib.hid ?_, Lib.hid ?_, Lib.hid ?_, Lib.hid ?_, Lib.hid ?_⟩, ?_⟩
      · rw [HG.out, HE.out]; simp [upon]
      · have := HM.out; have := HS1.out; have := H0.out; omega
      · have := HA.out; simp; omega
      · have := HN.out; omega
      ·
       have h := HO.out
       rw [Lib.byteCells_append, ← bcell, HX.out, List.length_append]
       exact h
      · exact below_app HB.out HGR.out ⟨_, ⟨rfl, rfl, rfl, rfl⟩⟩ (fun k hk => own_base HR.out k hk)
      ·
       show r1.size < r.size
       have := HS1.out; have := H0.out; omega
     )
theorem bcells_len (l : List UInt8) : (Lib.byteCells l).length = l.length := Lib.byteCells_length l
theorem blen (B b : Nat) (l : List UInt8) (w : World) (h : BB B b l w) : Calls Tryz.prog 181 #[.pointer (some ⟨b, 0, none⟩)] w fun e w' => e = .returned (.int .i64 (l.length : Int)) ∧ w' = w := by
 have h1 := Tryz.Builder_Len_f B b (Lib.byteCells l) w h
 rwa [bcells_len] at h1
theorem b64L_len : ∀ (l : List UInt8) (b : Int) (q : Nat), (b64L b q l).length ≤ 2 * l.length + 1
 | [], b, 0 => by simp [b64L]
 | [], b, 1 => by simp [b64L]
 | [], b, _ + 2 => by simp [b64L]
 | c :: r, b, 0 => by have := b64L_len r (jn b c.toNat) 1; simp [b64L]; omega
 | c :: r, b, 1 => by have := b64L_len r (jn b c.toNat) 2; simp [b64L]; omega
 | c :: r, b, _ + 2 => by have := b64L_len r (jn b c.toNat) 0; simp [b64L]; omega
def many (q : Nat) : Int := (2 * q : Nat)
theorem base64_any (s : ByteArray) (w : World) (hs : s.size ≤ 17592186044416) :
  Calls Tryz.prog 171 #[.string s] w fun e w' => e = .returned (.string (base64F s)) ∧ Below w.heap.size w w' := by
 have HL := Lib.hid hs
 have HBY := Lib.hid b64_byte
 have HAND := Lib.hid and63
 clear hs
 go_enter Tryz.func171, Tryz.ntmps171
 go_upto_block 0 with fail
 go_cut [4, 5] (fun v4 v5 wc => ∃ (b : Int) (q : Nat) (o : List UInt8), v4 = .int .u32 b ∧ v5 = .int .i64 (many q) ∧ q ≤ 2 ∧ Hid (b64L 0 0 s.data.toList = o ++ b64L b q []) ∧ Hid (0 ≤ b ∧ b < 4294967296) ∧ Hid (o.length ≤ 2 * s.size) ∧ Hid (BB w.heap.size w.heap.size o wc) ∧ Hid (Below w.heap.size w wc))
 case first =>
  go_wp2
  go_loopw [4, 5, 9] (fun v4 v5 vi wr => ∃ (k : Nat) (b : Int) (q : Nat) (o : List UInt8), k ≤ s.size ∧ vi = .int .i64 k ∧ v4 = .int .u32 b ∧ v5 = .int .i64 (many q) ∧ q ≤ 2 ∧ Hid (b64L 0 0 s.data.toList = o ++ b64L b q (s.data.toList.drop k)) ∧ Hid (0 ≤ b ∧ b < 4294967296) ∧ Hid (o.length ≤ 2 * k) ∧ Hid (BB w.heap.size w.heap.size o wr) ∧ Hid (Below w.heap.size w wr)) (fun _ _ vi _ => s.size - (intOf vi).toNat)
  case atStart => exact ⟨0, 0, 0, [], by omega, rfl, rfl, rfl, by omega, Lib.hid rfl, Lib.hid (by decide), Lib.hid (Nat.zero_le _), Lib.hid (bb_fresh w), Lib.hid ((Below.refl _ _).alloc (Nat.le_refl _) _)⟩
  case round =>
   obtain ⟨k, b, q, o, hk, rfl, rfl, rfl, hq, HG, HR, HO, HBB, HB⟩ := hrel
   by_cases k5 : k = s.size
   ·
    subst k5
    have hd : s.data.toList.drop s.size = [] := List.drop_of_length_le (by rw [data_length]; exact Nat.le_refl _)
    have HG' := HG.out
    rw [hd] at HG'
    have HGG := Lib.hid HG'
    clear HG' hd
    go_wp2
    go_meet
    exact ⟨b, q, o, rfl, rfl, hq, HGG, HR, HO, HBB, HB⟩
   ·
    have hlt : k < s.size := by omega
    obtain ⟨c, hc, hbt⟩ := cons_at s k hlt
    obtain ⟨x, hx⟩ : ∃ x : Int, (c.toNat : Int) = x := ⟨_, rfl⟩
    rw [hx] at hbt
    have hx0 : 0 ≤ x := by omega
    have hx1 : x < 256 := by have := c.toNat_lt; omega
    have hj := jn_bits b x HR.out.1 HR.out.2 hx0 hx1
    have hjr := jn_range b x hx0 hx1
    obtain ⟨y, hy⟩ : ∃ y, jn b x = y := ⟨_, rfl⟩
    rw [hy] at hj hjr
    have hy0 := hjr.1
    have hy1 := hjr.2
    have HC := Lib.hid hc
    have HX := Lib.hid hx
    have HY := Lib.hid hy
    have K5 := Lib.hid k5
    have HK := Lib.hid hk
    have e1 : (k : Int) < (s.size : Int) := by omega
    have hk64 : (k : Int) ≤ 17592186044416 := by have := HL.out; omega
    have hlen : o.length + 1 ≤ 140737488355328 := by have := HO.out; have := HL.out; omega
    have hlen2 : o.length + 2 ≤ 140737488355328 := by have := HO.out; have := HL.out; omega
    match q, hq with
    | 0, _ =>
     have em : many 0 = 0 := rfl
     rw [em]
     have ha := HAND.out (y / 4) (by omega) (by omega)
     obtain ⟨z, hz⟩ : ∃ z, y / 4 % 64 = z := ⟨_, rfl⟩
     have hz0 : 0 ≤ z := by omega
     have hz1 : z < 64 := by omega
     have hzb := HBY.out z hz0 hz1
     rw [hz] at ha
     have HZ := Lib.hid hz
     have HW := Lib.hid (bwrite w.heap.size w.heap.size o (b64c z) _ rfl wr HBB.out hlen HB.out.size)
     have HL2 := Lib.hid hlen2
     clear hc hx hy k5 hk hlt hjr em hz hlen hlen2
     go_wp2
     refine wp_loop_rounds 2 ?_
     rw [rounds_succ]
     go_wp2_with (first | (go_at_call 122; refine HW.out.mono ?_; rintro e w1 ⟨rfl, h1, h2⟩; have H1 := Lib.hid h1; have H2 := Lib.hid (HB.out.trans h2); clear h1 h2))
     rw [rounds_succ]
     go_wp2_with fail
     go_roundw
     case measure => have h1 := HK.out; have h2 := K5.out; simp [intOf]; omega
     case rel =>
      have h1 := HK.out
      have h2 := K5.out
      refine ⟨k + 1, y, 1, o ++ [b64c z], by omega, by go_num, rfl, rfl, by omega, Lib.hid ?_, Lib.hid ⟨hy0, hy1⟩, Lib.hid ?_, Lib.hid H1.out, Lib.hid H2.out⟩
      ·
       rw [HG.out, HC.out]
       simp only [b64L, HX.out, HY.out, HZ.out]
       simp
      · have := HO.out; simp; omega
    | 1, _ =>
     have em : many 1 = 2 := rfl
     rw [em]
     have ha := HAND.out (y / 16) (by omega) (by omega)
     obtain ⟨z, hz⟩ : ∃ z, y / 16 % 64 = z := ⟨_, rfl⟩
     have hz0 : 0 ≤ z := by omega
     have hz1 : z < 64 := by omega
     have hzb := HBY.out z hz0 hz1
     rw [hz] at ha
     have HZ := Lib.hid hz
     have HW := Lib.hid (bwrite w.heap.size w.heap.size o (b64c z) _ rfl wr HBB.out hlen HB.out.size)
     have HL2 := Lib.hid hlen2
     clear hc hx hy k5 hk hlt hjr em hz hlen hlen2
     go_wp2
     refine wp_loop_rounds 2 ?_
     rw [rounds_succ]
     go_wp2_with (first | (go_at_call 122; refine HW.out.mono ?_; rintro e w1 ⟨rfl, h1, h2⟩; have H1 := Lib.hid h1; have H2 := Lib.hid (HB.out.trans h2); clear h1 h2))
     rw [rounds_succ]
     go_wp2_with fail
     go_roundw
     case measure => have h1 := HK.out; have h2 := K5.out; simp [intOf]; omega
     case rel =>
      have h1 := HK.out
      have h2 := K5.out
      refine ⟨k + 1, y, 2, o ++ [b64c z], by omega, by go_num, rfl, rfl, by omega, Lib.hid ?_, Lib.hid ⟨hy0, hy1⟩, Lib.hid ?_, Lib.hid H1.out, Lib.hid H2.out⟩
      ·
       rw [HG.out, HC.out]
       simp only [b64L, HX.out, HY.out, HZ.out]
       simp
      · have := HO.out; simp; omega
    | 2, _ =>
     have em : many 2 = 4 := rfl
     rw [em]
     have ha := HAND.out (y / 64) (by omega) (by omega)
     obtain ⟨z, hz⟩ : ∃ z, y / 64 % 64 = z := ⟨_, rfl⟩
     have hz0 : 0 ≤ z := by omega
     have hz1 : z < 64 := by omega
     have hzb := HBY.out z hz0 hz1
     have ha2 := HAND.out y hy0 hy1
     obtain ⟨z2, hz2⟩ : ∃ z, y % 64 = z := ⟨_, rfl⟩
     have hz20 : 0 ≤ z2 := by omega
     have hz21 : z2 < 64 := by omega
     have hz2b := HBY.out z2 hz20 hz21
     rw [hz] at ha
     have HZ := Lib.hid hz
     rw [hz2] at ha2
     have HZ2 := Lib.hid hz2
     have HW := Lib.hid (bwrite w.heap.size w.heap.size o (b64c z) _ rfl wr HBB.out hlen HB.out.size)
     have HL2 := Lib.hid hlen2
     clear hc hx hy k5 hk hlt hjr em hz hlen hlen2 hz2
     go_wp2
     refine wp_loop_rounds 3 ?_
     rw [rounds_succ]
     go_wp2_with (first | (go_at_call 122; refine HW.out.mono ?_; rintro e w1 ⟨rfl, h1, h2⟩; have H1 := Lib.hid h1; have H2 := Lib.hid (HB.out.trans h2); clear h1 h2))
     rw [rounds_succ]
     have HV := Lib.hid (bwrite w.heap.size w.heap.size (o ++ [b64c z]) (b64c z2) _ rfl w1 H1.out (by have := HL2.out; simp; omega) H2.out.size)
     go_wp2_with (first | (go_at_call 122; refine HV.out.mono ?_; rintro e w2 ⟨rfl, h1, h2⟩; have H3 := Lib.hid h1; have H4 := Lib.hid (H2.out.trans h2); clear h1 h2))
     rw [rounds_succ]
     go_wp2_with fail
     go_roundw
     case measure => have h1 := HK.out; have h2 := K5.out; simp [intOf]; omega
     case rel =>
      have h1 := HK.out
      have h2 := K5.out
      refine ⟨k + 1, y, 0, (o ++ [b64c z]) ++ [b64c z2], by omega, by go_num, rfl, rfl, by omega, Lib.hid ?_, Lib.hid ⟨hy0, hy1⟩, Lib.hid ?_, Lib.hid H3.out, Lib.hid H4.out⟩
      ·
       rw [HG.out, HC.out]
       simp only [b64L, HX.out, HY.out, HZ.out, HZ2.out]
       simp
      · have := HO.out; simp; omega
 case rest =>
  obtain ⟨b, q, o, rfl, rfl, hq, HG, HR, HO, HBB, HB⟩ := hcut
  have hb0 := HR.out.1
  have hb1 := HR.out.2
  obtain ⟨L, hL⟩ : ∃ L, b64L 0 0 s.data.toList = L := ⟨_, rfl⟩
  rw [hL] at HG
  have HLL := Lib.hid (show L.length ≤ 2 * s.size + 1 by rw [← hL]; have := b64L_len s.data.toList 0 0; rw [data_length] at this; exact this)
  have HF := Lib.hid (show base64F s = ⟨(pad L).toArray⟩ by unfold base64F; rw [hL])
  clear hL
  go_upto_if 34 with fail
  go_cut [] (fun wc => Hid (BB w.heap.size w.heap.size L wc) ∧ Hid (Below w.heap.size w wc))
  case first =>
   match q, hq with
   | 0, _ =>
    have em : many 0 = 0 := rfl
    rw [em]
    clear em
    go_wp2
    go_meet
    refine ⟨Lib.hid ?_, Lib.hid HB.out⟩
    rw [HG.out]
    simp only [b64L, List.append_nil]
    exact HBB.out
   | 1, _ =>
    have em : many 1 = 2 := rfl
    rw [em]
    have ha := HAND.out (b * 16 % 4294967296) (by omega) (by omega)
    obtain ⟨z, hz⟩ : ∃ z, b * 16 % 4294967296 % 64 = z := ⟨_, rfl⟩
    have hz0 : 0 ≤ z := by omega
    have hz1 : z < 64 := by omega
    have hzb := HBY.out z hz0 hz1
    rw [hz] at ha
    have HZ := Lib.hid hz
    have HW := Lib.hid (bwrite w.heap.size w.heap.size o (b64c z) _ rfl wc HBB.out (by have := HO.out; have := HL.out; omega) HB.out.size)
    clear hz em
    go_wp2_with (first | (go_at_call 122; refine HW.out.mono ?_; rintro e w1 ⟨rfl, h1, h2⟩; have H1 := Lib.hid h1; have H2 := Lib.hid (HB.out.trans h2); clear h1 h2))
    go_meet
    refine ⟨Lib.hid ?_, Lib.hid H2.out⟩
    rw [HG.out]
    simp only [b64L, HZ.out]
    exact H1.out
   | 2, _ =>
    have em : many 2 = 4 := rfl
    rw [em]
    have ha := HAND.out (b * 4 % 4294967296) (by omega) (by omega)
    obtain ⟨z, hz⟩ : ∃ z, b * 4 % 4294967296 % 64 = z := ⟨_, rfl⟩
    have hz0 : 0 ≤ z := by omega
    have hz1 : z < 64 := by omega
    have hzb := HBY.out z hz0 hz1
    rw [hz] at ha
    have HZ := Lib.hid hz
    have HW := Lib.hid (bwrite w.heap.size w.heap.size o (b64c z) _ rfl wc HBB.out (by have := HO.out; have := HL.out; omega) HB.out.size)
    clear hz em
    go_wp2_with (first | (go_at_call 122; refine HW.out.mono ?_; rintro e w1 ⟨rfl, h1, h2⟩; have H1 := Lib.hid h1; have H2 := Lib.hid (HB.out.trans h2); clear h1 h2))
    go_meet
    refine ⟨Lib.hid ?_, Lib.hid H2.out⟩
    rw [HG.out]
    simp only [b64L, HZ.out]
    exact H1.out
  case rest =>
   obtain ⟨HBL, HBB2⟩ := hcut
   have hcase : L.length % 4 = 0 ∨ L.length % 4 = 1 ∨ L.length % 4 = 2 ∨ L.length % 4 = 3 := by omega
   clear HR HO HBB HB HG hq hb0 hb1 HBY HAND
   rcases hcase with hr | hr | hr | hr
   ·
    obtain ⟨n, hn⟩ : ∃ n, L.length = n := ⟨_, rfl⟩
    have hnl : (L.length : Int) = (n : Int) := by omega
    have hlens : ∀ j, j ≤ 3 → (L ++ List.replicate j (61 : UInt8)).length + 1 ≤ 140737488355328 := fun j hj => by have := HLL.out; have := HL.out; simp; omega
    have hm0 : ((n : Int)).tmod 4 = 0 := by rw [Int.tmod_eq_emod_of_nonneg (by omega)]; omega
    have HPD := Lib.hid (show pad L = L by unfold pad; rw [hr]; simp)
    have HLS := Lib.hid hlens
    have HN := Lib.hid (show ∀ j, ((L ++ List.replicate j (61 : UInt8)).length : Int) = (n : Int) + (j : Int) from fun j => by simp; omega)
    clear hlens hr hn hnl
    have B0 := Lib.hid (show BB w.heap.size w.heap.size (L ++ List.replicate 0 61) wc by simpa using HBL.out)
    have C0 := Lib.hid HBB2.out
    go_wp2
    refine wp_loop_rounds 1 ?_
    rw [rounds_succ]
    have L0 := Lib.hid (show Calls Tryz.prog 181 #[.pointer (some ⟨w.heap.size, 0, none⟩)] wc fun e w' => e = .returned (.int .i64 ((n : Int))) ∧ w' = wc by
     have h := blen w.heap.size w.heap.size _ wc B0.out
     have e := HN.out 0
     rw [e] at h
     simpa using h)
    have S0 := Lib.hid (bstring w.heap.size w.heap.size _ wc B0.out C0.out.size)
    go_wp2_with (first | (go_at_call 181; refine L0.out.mono ?_; rintro e wx ⟨rfl, hwx⟩; subst hwx) | (go_at_call 36; refine S0.out.mono ?_; rintro e wz ⟨rfl, hz⟩; have HZZ := Lib.hid hz; clear hz))
    go_ret
    rw [HF.out, HPD.out]
    exact ⟨rfl, C0.out.trans HZZ.out⟩
   ·
    obtain ⟨n, hn⟩ : ∃ n, L.length = n := ⟨_, rfl⟩
    have hnl : (L.length : Int) = (n : Int) := by omega
    have hlens : ∀ j, j ≤ 3 → (L ++ List.replicate j (61 : UInt8)).length + 1 ≤ 140737488355328 := fun j hj => by have := HLL.out; have := HL.out; simp; omega
    have hm0 : ((n : Int)).tmod 4 = 1 := by rw [Int.tmod_eq_emod_of_nonneg (by omega)]; omega
    have hm1 : ((n : Int) + 1).tmod 4 = 2 := by rw [Int.tmod_eq_emod_of_nonneg (by omega)]; omega
    have hm2 : ((n : Int) + 2).tmod 4 = 3 := by rw [Int.tmod_eq_emod_of_nonneg (by omega)]; omega
    have hm3 : ((n : Int) + 3).tmod 4 = 0 := by rw [Int.tmod_eq_emod_of_nonneg (by omega)]; omega
    have HPD := Lib.hid (show pad L = L ++ List.replicate 3 61 by unfold pad; rw [hr])
    have HLS := Lib.hid hlens
    have HN := Lib.hid (show ∀ j, ((L ++ List.replicate j (61 : UInt8)).length : Int) = (n : Int) + (j : Int) from fun j => by simp; omega)
    clear hlens hr hn hnl
    have B0 := Lib.hid (show BB w.heap.size w.heap.size (L ++ List.replicate 0 61) wc by simpa using HBL.out)
    have C0 := Lib.hid HBB2.out
    go_wp2
    refine wp_loop_rounds 4 ?_
    rw [rounds_succ]
    have L0 := Lib.hid (show Calls Tryz.prog 181 #[.pointer (some ⟨w.heap.size, 0, none⟩)] wc fun e w' => e = .returned (.int .i64 ((n : Int))) ∧ w' = wc by
     have h := blen w.heap.size w.heap.size _ wc B0.out
     have e := HN.out 0
     rw [e] at h
     simpa using h)
    have W0 := Lib.hid (bwrite w.heap.size w.heap.size _ 61 61 rfl wc B0.out (HLS.out 0 (by decide)) C0.out.size)
    go_wp2_with (first | (go_at_call 181; refine L0.out.mono ?_; rintro e wx ⟨rfl, hwx⟩; subst hwx) | (go_at_call 122; refine W0.out.mono ?_; rintro e w1 ⟨rfl, h1, h2⟩; have B1 := Lib.hid (show BB w.heap.size w.heap.size (L ++ List.replicate 1 61) w1 by rw [List.append_assoc] at h1; exact h1); have C1 := Lib.hid (C0.out.trans h2); clear h1 h2))
    rw [rounds_succ]
    have L1 := Lib.hid (show Calls Tryz.prog 181 #[.pointer (some ⟨w.heap.size, 0, none⟩)] w1 fun e w' => e = .returned (.int .i64 ((n : Int) + 1)) ∧ w' = w1 by
     have h := blen w.heap.size w.heap.size _ w1 B1.out
     have e := HN.out 1
     rw [e] at h
     simpa using h)
    have W1 := Lib.hid (bwrite w.heap.size w.heap.size _ 61 61 rfl w1 B1.out (HLS.out 1 (by decide)) C1.out.size)
    go_wp2_with (first | (go_at_call 181; refine L1.out.mono ?_; rintro e wx ⟨rfl, hwx⟩; subst hwx) | (go_at_call 122; refine W1.out.mono ?_; rintro e w2 ⟨rfl, h1, h2⟩; have B2 := Lib.hid (show BB w.heap.size w.heap.size (L ++ List.replicate 2 61) w2 by rw [List.append_assoc] at h1; exact h1); have C2 := Lib.hid (C1.out.trans h2); clear h1 h2))
    rw [rounds_succ]
    have L2 := Lib.hid (show Calls Tryz.prog 181 #[.pointer (some ⟨w.heap.size, 0, none⟩)] w2 fun e w' => e = .returned (.int .i64 ((n : Int) + 2)) ∧ w' = w2 by
     have h := blen w.heap.size w.heap.size _ w2 B2.out
     have e := HN.out 2
     rw [e] at h
     simpa using h)
    have W2 := Lib.hid (bwrite w.heap.size w.heap.size _ 61 61 rfl w2 B2.out (HLS.out 2 (by decide)) C2.out.size)
    go_wp2_with (first | (go_at_call 181; refine L2.out.mono ?_; rintro e wx ⟨rfl, hwx⟩; subst hwx) | (go_at_call 122; refine W2.out.mono ?_; rintro e w3 ⟨rfl, h1, h2⟩; have B3 := Lib.hid (show BB w.heap.size w.heap.size (L ++ List.replicate 3 61) w3 by rw [List.append_assoc] at h1; exact h1); have C3 := Lib.hid (C2.out.trans h2); clear h1 h2))
    rw [rounds_succ]
    have L3 := Lib.hid (show Calls Tryz.prog 181 #[.pointer (some ⟨w.heap.size, 0, none⟩)] w3 fun e w' => e = .returned (.int .i64 ((n : Int) + 3)) ∧ w' = w3 by
     have h := blen w.heap.size w.heap.size _ w3 B3.out
     have e := HN.out 3
     rw [e] at h
     simpa using h)
    have S3 := Lib.hid (bstring w.heap.size w.heap.size _ w3 B3.out C3.out.size)
    go_wp2_with (first | (go_at_call 181; refine L3.out.mono ?_; rintro e wx ⟨rfl, hwx⟩; subst hwx) | (go_at_call 36; refine S3.out.mono ?_; rintro e wz ⟨rfl, hz⟩; have HZZ := Lib.hid hz; clear hz))
    go_ret
    rw [HF.out, HPD.out]
    exact ⟨rfl, C3.out.trans HZZ.out⟩
   ·
    obtain ⟨n, hn⟩ : ∃ n, L.length = n := ⟨_, rfl⟩
    have hnl : (L.length : Int) = (n : Int) := by omega
    have hlens : ∀ j, j ≤ 3 → (L ++ List.replicate j (61 : UInt8)).length + 1 ≤ 140737488355328 := fun j hj => by have := HLL.out; have := HL.out; simp; omega
    have hm0 : ((n : Int)).tmod 4 = 2 := by rw [Int.tmod_eq_emod_of_nonneg (by omega)]; omega
    have hm1 : ((n : Int) + 1).tmod 4 = 3 := by rw [Int.tmod_eq_emod_of_nonneg (by omega)]; omega
    have hm2 : ((n : Int) + 2).tmod 4 = 0 := by rw [Int.tmod_eq_emod_of_nonneg (by omega)]; omega
    have HPD := Lib.hid (show pad L = L ++ List.replicate 2 61 by unfold pad; rw [hr])
    have HLS := Lib.hid hlens
    have HN := Lib.hid (show ∀ j, ((L ++ List.replicate j (61 : UInt8)).length : Int) = (n : Int) + (j : Int) from fun j => by simp; omega)
    clear hlens hr hn hnl
    have B0 := Lib.hid (show BB w.heap.size w.heap.size (L ++ List.replicate 0 61) wc by simpa using HBL.out)
    have C0 := Lib.hid HBB2.out
    go_wp2
    refine wp_loop_rounds 3 ?_
    rw [rounds_succ]
    have L0 := Lib.hid (show Calls Tryz.prog 181 #[.pointer (some ⟨w.heap.size, 0, none⟩)] wc fun e w' => e = .returned (.int .i64 ((n : Int))) ∧ w' = wc by
     have h := blen w.heap.size w.heap.size _ wc B0.out
     have e := HN.out 0
     rw [e] at h
     simpa using h)
    have W0 := Lib.hid (bwrite w.heap.size w.heap.size _ 61 61 rfl wc B0.out (HLS.out 0 (by decide)) C0.out.size)
    go_wp2_with (first | (go_at_call 181; refine L0.out.mono ?_; rintro e wx ⟨rfl, hwx⟩; subst hwx) | (go_at_call 122; refine W0.out.mono ?_; rintro e w1 ⟨rfl, h1, h2⟩; have B1 := Lib.hid (show BB w.heap.size w.heap.size (L ++ List.replicate 1 61) w1 by rw [List.append_assoc] at h1; exact h1); have C1 := Lib.hid (C0.out.trans h2); clear h1 h2))
    rw [rounds_succ]
    have L1 := Lib.hid (show Calls Tryz.prog 181 #[.pointer (some ⟨w.heap.size, 0, none⟩)] w1 fun e w' => e = .returned (.int .i64 ((n : Int) + 1)) ∧ w' = w1 by
     have h := blen w.heap.size w.heap.size _ w1 B1.out
     have e := HN.out 1
     rw [e] at h
     simpa using h)
    have W1 := Lib.hid (bwrite w.heap.size w.heap.size _ 61 61 rfl w1 B1.out (HLS.out 1 (by decide)) C1.out.size)
    go_wp2_with (first | (go_at_call 181; refine L1.out.mono ?_; rintro e wx ⟨rfl, hwx⟩; subst hwx) | (go_at_call 122; refine W1.out.mono ?_; rintro e w2 ⟨rfl, h1, h2⟩; have B2 := Lib.hid (show BB w.heap.size w.heap.size (L ++ List.replicate 2 61) w2 by rw [List.append_assoc] at h1; exact h1); have C2 := Lib.hid (C1.out.trans h2); clear h1 h2))
    rw [rounds_succ]
    have L2 := Lib.hid (show Calls Tryz.prog 181 #[.pointer (some ⟨w.heap.size, 0, none⟩)] w2 fun e w' => e = .returned (.int .i64 ((n : Int) + 2)) ∧ w' = w2 by
     have h := blen w.heap.size w.heap.size _ w2 B2.out
     have e := HN.out 2
     rw [e] at h
     simpa using h)
    have S2 := Lib.hid (bstring w.heap.size w.heap.size _ w2 B2.out C2.out.size)
    go_wp2_with (first | (go_at_call 181; refine L2.out.mono ?_; rintro e wx ⟨rfl, hwx⟩; subst hwx) | (go_at_call 36; refine S2.out.mono ?_; rintro e wz ⟨rfl, hz⟩; have HZZ := Lib.hid hz; clear hz))
    go_ret
    rw [HF.out, HPD.out]
    exact ⟨rfl, C2.out.trans HZZ.out⟩
   ·
    obtain ⟨n, hn⟩ : ∃ n, L.length = n := ⟨_, rfl⟩
    have hnl : (L.length : Int) = (n : Int) := by omega
    have hlens : ∀ j, j ≤ 3 → (L ++ List.replicate j (61 : UInt8)).length + 1 ≤ 140737488355328 := fun j hj => by have := HLL.out; have := HL.out; simp; omega
    have hm0 : ((n : Int)).tmod 4 = 3 := by rw [Int.tmod_eq_emod_of_nonneg (by omega)]; omega
    have hm1 : ((n : Int) + 1).tmod 4 = 0 := by rw [Int.tmod_eq_emod_of_nonneg (by omega)]; omega
    have HPD := Lib.hid (show pad L = L ++ List.replicate 1 61 by unfold pad; rw [hr])
    have HLS := Lib.hid hlens
    have HN := Lib.hid (show ∀ j, ((L ++ List.replicate j (61 : UInt8)).length : Int) = (n : Int) + (j : Int) from fun j => by simp; omega)
    clear hlens hr hn hnl
    have B0 := Lib.hid (show BB w.heap.size w.heap.size (L ++ List.replicate 0 61) wc by simpa using HBL.out)
    have C0 := Lib.hid HBB2.out
    go_wp2
    refine wp_loop_rounds 2 ?_
    rw [rounds_succ]
    have L0 := Lib.hid (show Calls Tryz.prog 181 #[.pointer (some ⟨w.heap.size, 0, none⟩)] wc fun e w' => e = .returned (.int .i64 ((n : Int))) ∧ w' = wc by
     have h := blen w.heap.size w.heap.size _ wc B0.out
     have e := HN.out 0
     rw [e] at h
     simpa using h)
    have W0 := Lib.hid (bwrite w.heap.size w.heap.size _ 61 61 rfl wc B0.out (HLS.out 0 (by decide)) C0.out.size)
    go_wp2_with (first | (go_at_call 181; refine L0.out.mono ?_; rintro e wx ⟨rfl, hwx⟩; subst hwx) | (go_at_call 122; refine W0.out.mono ?_; rintro e w1 ⟨rfl, h1, h2⟩; have B1 := Lib.hid (show BB w.heap.size w.heap.size (L ++ List.replicate 1 61) w1 by rw [List.append_assoc] at h1; exact h1); have C1 := Lib.hid (C0.out.trans h2); clear h1 h2))
    rw [rounds_succ]
    have L1 := Lib.hid (show Calls Tryz.prog 181 #[.pointer (some ⟨w.heap.size, 0, none⟩)] w1 fun e w' => e = .returned (.int .i64 ((n : Int) + 1)) ∧ w' = w1 by
     have h := blen w.heap.size w.heap.size _ w1 B1.out
     have e := HN.out 1
     rw [e] at h
     simpa using h)
    have S1 := Lib.hid (bstring w.heap.size w.heap.size _ w1 B1.out C1.out.size)
    go_wp2_with (first | (go_at_call 181; refine L1.out.mono ?_; rintro e wx ⟨rfl, hwx⟩; subst hwx) | (go_at_call 36; refine S1.out.mono ?_; rintro e wz ⟨rfl, hz⟩; have HZZ := Lib.hid hz; clear hz))
    go_ret
    rw [HF.out, HPD.out]
    exact ⟨rfl, C1.out.trans HZZ.out⟩
def tabN (c : Int) : Int := (numT 64).getD c.toNat 0
def blankZ (x : Int) : Bool := ((x == 32) || (x == 9)) || (x == 10) || (x == 13)
def jn6 (b n : Int) : Int := (b * 64) % 4294967296 + n
def fbL : Int → Int → List UInt8 → List UInt8 × Nat
 | _, _, [] => ([], 0)
 | b, m, c :: r =>
  if (c.toNat : Int) = 61 then ([], 0)
  else if tabN c.toNat = 255 then (if blankZ c.toNat = true then fbL b m r else ((fbL b m r).1, (fbL b m r).2 + 1))
  else if 8 ≤ m + 6 then ((jn6 b (tabN c.toNat) / 2 ^ (m + 6 - 8).toNat % 256).toNat.toUInt8 :: (fbL (jn6 b (tabN c.toNat)) (m + 6 - 8) r).1, (fbL (jn6 b (tabN c.toNat)) (m + 6 - 8) r).2)
  else fbL (jn6 b (tabN c.toNat)) (m + 6) r
def fromBase64F (s : ByteArray) : ByteArray × Int := (⟨(fbL 0 0 s.data.toList).1.toArray⟩, ((fbL 0 0 s.data.toList).2 : Int))
theorem tab_range : ∀ c : Fin 256, tabN (c.val : Int) = 255 ∨ (0 ≤ tabN (c.val : Int) ∧ tabN (c.val : Int) < 64) := by decide +kernel
theorem jn6_bits (b c : Int) (h0 : 0 ≤ b) (h1 : b < 4294967296) (h2 : 0 ≤ c) (h3 : c < 64) : bits .or .u32 (b * 64 % 4294967296) c = jn6 b c := by
 have p6 : (2 : Int) ^ 6 = 64 := by decide
 have p32 : (2 : Int) ^ 32 = 4294967296 := by decide
 have e : b * 64 % 4294967296 = (b % 67108864) * 64 := by omega
 rw [e]
 have h := bits_join .u32 32 (by decide) wraps_u32 6 ((b % 67108864) * 64) c (by omega) (by rw [p6]; omega) (by rw [p32]; omega) h2 (by rw [p6]; omega) (by rw [p32]; omega)
 refine h.trans ?_
 unfold jn6
 omega
theorem jn6_range (b c : Int) (h2 : 0 ≤ c) (h3 : c < 64) : 0 ≤ jn6 b c ∧ jn6 b c < 4294967296 := by
 unfold jn6
 omega
theorem blank_any (x : Int) (w : World) : Calls Tryz.prog 124 #[.int .u8 x] w fun e w' => e = .returned (.bool (blankZ x)) ∧ w = w' := by
 unfold blankZ
 go_enter Tryz.func124, Tryz.ntmps124
 go_wp2
 all_goals (go_ret; refine ⟨?_, rfl⟩; simp_all)
theorem fromBase64_any (s : ByteArray) (w : World) (hs : s.size ≤ 17592186044416) :
  Calls Tryz.prog 92 #[.string s] w fun e w' => e = .returned (.tuple #[.string (fromBase64F s).1, .int .i64 (fromBase64F s).2]) ∧ Below w.heap.size w w' := by
 have HL := Lib.hid hs
 obtain ⟨i0, hi0, hz0, hz1, hz2⟩ := info_parts info5
 have HNU := Lib.hid (numbers_any w)
 have hi : (Tryz.prog.info? 161).map (·.size) = some (row (numT 64)).size := by rw [row_size, numT_len]; exact info161
 have hsz : (row (fill 0)).size = (row (numT 64)).size := by rw [row_size, row_size, numT_len, fill_len 0 (by decide)]
 have hone := row_one (numT 64)
 have HBL := Lib.hid blank_any
 clear hs
 go_enter Tryz.func92, Tryz.ntmps92
 go_upto_block 0 with (first | (go_at_call 123; refine HNU.out.mono ?_; rintro e w1 ⟨rfl, hb1⟩; have HB1 := Lib.hid hb1; clear hb1) | (refine wpList_store_row rfl 161 _ _ rfl w1.heap.size _ rfl rfl 161 (row (fill 0)) (by rw [← zero_row]; exact blk_new _ _) hi hsz hone ?_))
 have G0 := setRow_heap (w1.alloc (.cells Tryz.zeroCells161 161)) w1.heap.size _ (row (numT 64)) 161 (0, 0) (blk_new _ _)
 have B0 := below_setRow (g := w1.heap.size) (HB1.out.alloc HB1.out.size (.cells Tryz.zeroCells161 161)) HB1.out.size (row (numT 64))
 have hgs : w.heap.size ≤ w1.heap.size := HB1.out.size
 obtain ⟨g, hg⟩ : ∃ g, w1.heap.size = g := ⟨_, rfl⟩
 rw [hg] at G0 B0 hgs ⊢
 generalize (w1.alloc (.cells Tryz.zeroCells161 161)).setRow g (row (numT 64)) = W0 at G0 B0 ⊢
 have GG0 := Lib.hid G0
 have BB0 := Lib.hid B0
 clear G0 B0 hg HB1 HNU hi hsz hone
 go_wp2
 go_loopw [5, 6, 7, 8, 15] (fun v vb vm vn vi wr => ∃ (k : Nat) (b m : Int) (nb : Nat) (o : List UInt8), k ≤ s.size ∧ vb = .int .u32 b ∧ vm = .int .i64 m ∧ vn = .int .i64 (nb : Int) ∧ vi = .int .i64 (k : Int) ∧ (m = 0 ∨ m = 6 ∨ m = 4 ∨ m = 2) ∧
   Hid (fbL 0 0 s.data.toList = upon o nb (fbL b m (s.data.toList.drop k))) ∧ Hid (0 ≤ b ∧ b < 4294967296) ∧ Hid (o.length ≤ k) ∧ Hid (nb ≤ k) ∧ Hid (wr.ownsRow w.heap.size 5 1 v o.length (Lib.byteCells o)) ∧ Hid (wr.heap[g]? = some (.cells (row (numT 64)) 161 (0, 0))) ∧ Hid (Below w.heap.size w wr)) (fun _ _ _ _ vi _ => s.size - (intOf vi).toNat)
 case atStart => exact ⟨0, 0, 0, 0, [], by omega, rfl, rfl, rfl, rfl, .inl rfl, Lib.hid (by simp [upon]), Lib.hid (by decide), Lib.hid (Nat.le_refl _), Lib.hid (Nat.le_refl _), Lib.hid (own_nil _ _ _ _), GG0, BB0⟩
 case round =>
  obtain ⟨k, b, m, nb, o, hk, rfl, rfl, rfl, rfl, hm, HFB, HR5, HO1, HN1, HR, HG, HB⟩ := hrel
  obtain ⟨v, hv⟩ : ∃ v : Value, v = u5 := ⟨_, rfl⟩
  subst hv
  by_cases k5 : k = s.size
  ·
   subst k5
   have HF := Lib.hid (show fbL 0 0 s.data.toList = (o, nb) by rw [HFB.out, List.drop_of_length_le (by rw [data_length]; exact Nat.le_refl _)]; unfold fbL; simp [upon])
   have hcv := own_string (P := Tryz.prog) (src := 66) (dst := 9) (e := 5) Tryz.underlying66 Tryz.underlying5 Tryz.underlying9 (xs := o.map fun b => (b.toNat : Int)) (by have := HR.out; rwa [bytes_nums] at this)
   rw [bytes_string] at hcv
   go_wp2
   go_ret2
   unfold fromBase64F
   rw [HF.out]
   exact ⟨rfl, HB.out⟩
  ·
   have hlt : k < s.size := by omega
   obtain ⟨c, hc, hbt⟩ := cons_at s k hlt
   obtain ⟨x, hx⟩ : ∃ x : Int, (c.toNat : Int) = x := ⟨_, rfl⟩
   rw [hx] at hbt
   have hx0 : 0 ≤ x := by omega
   have hx1 : x < 256 := by have := c.toNat_lt; omega
   have hfb : ∀ (b m : Int) (r : List UInt8), fbL b m (c :: r) = if (c.toNat : Int) = 61 then ([], 0) else if tabN c.toNat = 255 then (if blankZ c.toNat = true then fbL b m r else ((fbL b m r).1, (fbL b m r).2 + 1)) else if 8 ≤ m + 6 then ((jn6 b (tabN c.toNat) / 2 ^ (m + 6 - 8).toNat % 256).toNat.toUInt8 :: (fbL (jn6 b (tabN c.toNat)) (m + 6 - 8) r).1, (fbL (jn6 b (tabN c.toNat)) (m + 6 - 8) r).2) else fbL (jn6 b (tabN c.toNat)) (m + 6) r := fun _ _ _ => rfl
   have htr := tab_range ⟨c.toNat, c.toNat_lt⟩
   simp only at htr
   rw [hx] at htr
   obtain ⟨n, hn⟩ : ∃ n, tabN x = n := ⟨_, rfl⟩
   rw [hn] at htr
   have hcell : wr.cell? ⟨g, x.toNat, none⟩ = some (.int .u8 n) := by
    rw [blk_cell HG.out x.toNat, row_at _ _ (by rw [numT_len]; omega), ← hn]
    rfl
   have K5 := Lib.hid k5
   have HK := Lib.hid hk
   have e1 : (k : Int) < (s.size : Int) := by omega
   have hk64 : (k : Int) ≤ 17592186044416 := by have := HL.out; omega
   have hnb64 : (nb : Int) ≤ 17592186044416 := by have := HL.out; have := HN1.out; omega
   have HLN := Lib.hid (show o.length + 1 ≤ maxLen ∧ (o.length + 1) * 1 ≤ 140737488355328 by have := HO1.out; have := HL.out; unfold maxLen; omega)
   by_cases h61 : x = 61
   ·
    subst h61
    have HF := Lib.hid (show fbL 0 0 s.data.toList = (o, nb) by rw [HFB.out, hc]; simp only [fbL]; rw [if_pos hx]; simp [upon])
    rw [show (61 : Int).toNat = 61 from rfl] at hcell
    have hcv := own_string (P := Tryz.prog) (src := 66) (dst := 9) (e := 5) Tryz.underlying66 Tryz.underlying5 Tryz.underlying9 (xs := o.map fun b => (b.toNat : Int)) (by have := HR.out; rwa [bytes_nums] at this)
    rw [bytes_string] at hcv
    go_wp2
    go_ret2
    unfold fromBase64F
    rw [HF.out]
    exact ⟨rfl, HB.out⟩
   ·
    have h61' : (x == 61) = false := by simpa using h61
    by_cases h255 : n = 255
    ·
     subst h255
     have HFE := Lib.hid (show fbL b m (s.data.toList.drop k) = if blankZ x = true then fbL b m (s.data.toList.drop (k + 1)) else ((fbL b m (s.data.toList.drop (k + 1))).1, (fbL b m (s.data.toList.drop (k + 1))).2 + 1) by
      rw [hc]; simp only [fbL]; rw [hx, hn, if_neg h61, if_pos rfl])
     obtain ⟨bl, hbl⟩ : ∃ bl, blankZ x = bl := ⟨_, rfl⟩
     have HB2 := Lib.hid (fun W => blank_any x W)
     rw [hbl] at HFE HB2
     clear hfb hc hx hn hbl htr h61
     cases bl with
     | true =>
      go_wp2_with (first | (go_at_call 124; refine (HB2.out _).mono ?_; rintro e w5 ⟨rfl, rfl⟩))
      go_roundw
      case measure => have h1 := HK.out; have h2 := K5.out; simp [intOf]; omega
      case rel =>
       have h1 := HK.out
       have h2 := K5.out
       refine ⟨k + 1, b, m, nb, o, by omega, rfl, rfl, rfl, by go_num, hm, Lib.hid ?_, HR5, Lib.hid ?_, Lib.hid ?_, HR, HG, HB⟩
       · rw [HFB.out, HFE.out]; simp
       · have := HO1.out; omega
       · have := HN1.out; omega
     | false =>
      go_wp2_with (first | (go_at_call 124; refine (HB2.out _).mono ?_; rintro e w5 ⟨rfl, rfl⟩))
      go_roundw
      case measure => have h1 := HK.out; have h2 := K5.out; simp [intOf]; omega
      case rel =>
       have h1 := HK.out
       have h2 := K5.out
       refine ⟨k + 1, b, m, nb + 1, o, by omega, rfl, rfl, by go_num, by go_num, hm, Lib.hid ?_, HR5, Lib.hid ?_, Lib.hid ?_, HR, HG, HB⟩
       · rw [HFB.out, HFE.out]; simp [upon]; omega
       · have := HO1.out; omega
       · have := HN1.out; omega
    ·
     have h255' : (n == 255) = false := by simpa using h255
     have hnn : 0 ≤ n ∧ n < 64 := htr.resolve_left h255
     have hn0 := hnn.1
     have hn1 := hnn.2
     have hj := jn6_bits b n HR5.out.1 HR5.out.2 hn0 hn1
     have hjr := jn6_range b n hn0 hn1
     obtain ⟨q, hq⟩ : ∃ q, jn6 b n = q := ⟨_, rfl⟩
     rw [hq] at hj hjr
     have hq0 := hjr.1
     have hq1 := hjr.2
     have hfb := hfb b m (s.data.toList.drop (k + 1))
     clear htr hjr
     rcases hm with hmm | hmm | hmm | hmm
     ·
      subst hmm
      have hfe := hfb
      rw [hx, hn] at hfe
      rw [if_neg h61, if_neg h255] at hfe
      rw [if_neg (by decide)] at hfe
      have HFE := Lib.hid (show fbL b 0 (s.data.toList.drop k) = fbL q 6 (s.data.toList.drop (k + 1)) by rw [hc, hfe, ← hq]; rfl)
      clear hfb hfe hc hx hn hq HR5 hk k5 hlt hnn
      go_wp2_with (first | (go_at_call 124; refine (HBL.out _ _).mono ?_; rintro e w5 ⟨rfl, rfl⟩))
      go_roundw
      case measure => have h1 := HK.out; have h2 := K5.out; simp [intOf]; omega
      case rel =>
       have h1 := HK.out
       have h2 := K5.out
       refine ⟨k + 1, q, 6, nb, o, by omega, rfl, rfl, rfl, by go_num, by decide, Lib.hid ?_, Lib.hid ⟨hq0, hq1⟩, Lib.hid ?_, Lib.hid ?_, HR, HG, HB⟩
       · rw [HFB.out, HFE.out]
       · have := HO1.out; omega
       · have := HN1.out; omega
     ·
      subst hmm
      have hfe := hfb
      rw [hx, hn] at hfe
      rw [if_neg h61, if_neg h255] at hfe
      rw [if_pos (by decide)] at hfe
      obtain ⟨y, hy⟩ : ∃ y, q / 16 % 256 = y := ⟨_, rfl⟩
      have hy0 : 0 ≤ y := by omega
      have hy1 : y < 256 := by omega
      have HFE := Lib.hid (show fbL b 6 (s.data.toList.drop k) = (y.toNat.toUInt8 :: (fbL q 4 (s.data.toList.drop (k + 1))).1, (fbL q 4 (s.data.toList.drop (k + 1))).2) by
       rw [hc, hfe, ← hy, hq]
       first | rfl | simp)
      have HYB := Lib.hid (show ((y.toNat.toUInt8).toNat : Int) = y by simp; omega)
      have hyd : q / 16 % 256 = y := hy
      clear hfb hfe hc hx hn hq hy HR5 hk k5 hlt hnn
      go_wp2_with (first | (go_at_call 124; refine (HBL.out _ _).mono ?_; rintro e w5 ⟨rfl, rfl⟩) | ((with_reducible refine gate_builtin (b := .append) (xs := #[.tmp 54, .tmp 59]) rfl ?_); (go_loud (at_builtin; refine wpList_append_lies _ rfl (.tmp 54) (.tmp 59) 66 rfl w.heap.size 5 i0 (.int .u8 0) 1 1 Tryz.underlying66 hi0 hz0 hz1 hz2 rfl (by decide) v o.length (Lib.byteCells o) rfl ?hown _ 1 1 [.int .u8 y] rfl rfl ?hnews ?hone (by decide) ?h63 ?hby ?hbase _ rfl ?_; (case hown => exact own_alloc HR.out _); (case hnews => exact (World.news_of_block (cs := #[.int .u8 y]) (t := 5) (fr := (0, 0)) (heap_alloc_new _ _))); (case hone => (intro u hu; simp at hu; subst hu; rfl)); (case h63 => exact HLN.out.1); (case hby => exact HLN.out.2); (case hbase => (have := HB.out.size; simp; omega)); intro g9 cap9 w9 hown hgrow hat hlt; have HO := Lib.hid hown; have HGR := Lib.hid hgrow; clear hown hgrow hat hlt))))
      go_roundw
      case measure => have h1 := HK.out; have h2 := K5.out; simp [intOf]; omega
      case rel =>
       have h1 := HK.out
       have h2 := K5.out
       refine ⟨k + 1, q, 4, nb, o ++ [y.toNat.toUInt8], by omega, rfl, rfl, rfl, by go_num, by decide, Lib.hid ?_, Lib.hid ⟨hq0, hq1⟩, Lib.hid ?_, Lib.hid ?_, Lib.hid ?_, Lib.hid ?_, Lib.hid ?_⟩
       · rw [HFB.out, HFE.out]; simp [upon]
       · have := HO1.out; simp; omega
       · have := HN1.out; omega
       ·
        have h := HO.out
        rw [Lib.byteCells_append, ← bcell, HYB.out, List.length_append]
        exact h
       · exact (HGR.out.block g (by have := blk_lt HG.out; simp; omega) (Lib.ownBlock_ne HR.out HG.out (by decide)).symm).trans (blk_alloc HG.out _)
       · exact below_app HB.out HGR.out ⟨_, ⟨rfl, rfl, rfl, rfl⟩⟩ (fun k hk => own_base HR.out k hk)
     ·
      subst hmm
      have hfe := hfb
      rw [hx, hn] at hfe
      rw [if_neg h61, if_neg h255] at hfe
      rw [if_pos (by decide)] at hfe
      obtain ⟨y, hy⟩ : ∃ y, q / 4 % 256 = y := ⟨_, rfl⟩
      have hy0 : 0 ≤ y := by omega
      have hy1 : y < 256 := by omega
      have HFE := Lib.hid (show fbL b 4 (s.data.toList.drop k) = (y.toNat.toUInt8 :: (fbL q 2 (s.data.toList.drop (k + 1))).1, (fbL q 2 (s.data.toList.drop (k + 1))).2) by
       rw [hc, hfe, ← hy, hq]
       first | rfl | simp)
      have HYB := Lib.hid (show ((y.toNat.toUInt8).toNat : Int) = y by simp; omega)
      have hyd : q / 4 % 256 = y := hy
      clear hfb hfe hc hx hn hq hy HR5 hk k5 hlt hnn
      go_wp2_with (first | (go_at_call 124; refine (HBL.out _ _).mono ?_; rintro e w5 ⟨rfl, rfl⟩) | ((with_reducible refine gate_builtin (b := .append) (xs := #[.tmp 54, .tmp 59]) rfl ?_); (go_loud (at_builtin; refine wpList_append_lies _ rfl (.tmp 54) (.tmp 59) 66 rfl w.heap.size 5 i0 (.int .u8 0) 1 1 Tryz.underlying66 hi0 hz0 hz1 hz2 rfl (by decide) v o.length (Lib.byteCells o) rfl ?hown _ 1 1 [.int .u8 y] rfl rfl ?hnews ?hone (by decide) ?h63 ?hby ?hbase _ rfl ?_; (case hown => exact own_alloc HR.out _); (case hnews => exact (World.news_of_block (cs := #[.int .u8 y]) (t := 5) (fr := (0, 0)) (heap_alloc_new _ _))); (case hone => (intro u hu; simp at hu; subst hu; rfl)); (case h63 => exact HLN.out.1); (case hby => exact HLN.out.2); (case hbase => (have := HB.out.size; simp; omega)); intro g9 cap9 w9 hown hgrow hat hlt; have HO := Lib.hid hown; have HGR := Lib.hid hgrow; clear hown hgrow hat hlt))))
      go_roundw
      case measure => have h1 := HK.out; have h2 := K5.out; simp [intOf]; omega
      case rel =>
       have h1 := HK.out
       have h2 := K5.out
       refine ⟨k + 1, q, 2, nb, o ++ [y.toNat.toUInt8], by omega, rfl, rfl, rfl, by go_num, by decide, Lib.hid ?_, Lib.hid ⟨hq0, hq1⟩, Lib.hid ?_, Lib.hid ?_, Lib.hid ?_, Lib.hid ?_, Lib.hid ?_⟩
       · rw [HFB.out, HFE.out]; simp [upon]
       · have := HO1.out; simp; omega
       · have := HN1.out; omega
       ·
        have h := HO.out
        rw [Lib.byteCells_append, ← bcell, HYB.out, List.length_append]
        exact h
       · exact (HGR.out.block g (by have := blk_lt HG.out; simp; omega) (Lib.ownBlock_ne HR.out HG.out (by decide)).symm).trans (blk_alloc HG.out _)
       · exact below_app HB.out HGR.out ⟨_, ⟨rfl, rfl, rfl, rfl⟩⟩ (fun k hk => own_base HR.out k hk)
     ·
      subst hmm
      have hfe := hfb
      rw [hx, hn] at hfe
      rw [if_neg h61, if_neg h255] at hfe
      rw [if_pos (by decide)] at hfe
      obtain ⟨y, hy⟩ : ∃ y, q % 256 = y := ⟨_, rfl⟩
      have hy0 : 0 ≤ y := by omega
      have hy1 : y < 256 := by omega
      have HFE := Lib.hid (show fbL b 2 (s.data.toList.drop k) = (y.toNat.toUInt8 :: (fbL q 0 (s.data.toList.drop (k + 1))).1, (fbL q 0 (s.data.toList.drop (k + 1))).2) by
       rw [hc, hfe, ← hy, hq]
       first | rfl | simp)
      have HYB := Lib.hid (show ((y.toNat.toUInt8).toNat : Int) = y by simp; omega)
      have hyd : q % 256 = y := hy
      clear hfb hfe hc hx hn hq hy HR5 hk k5 hlt hnn
      go_wp2_with (first | (go_at_call 124; refine (HBL.out _ _).mono ?_; rintro e w5 ⟨rfl, rfl⟩) | ((with_reducible refine gate_builtin (b := .append) (xs := #[.tmp 54, .tmp 59]) rfl ?_); (go_loud (at_builtin; refine wpList_append_lies _ rfl (.tmp 54) (.tmp 59) 66 rfl w.heap.size 5 i0 (.int .u8 0) 1 1 Tryz.underlying66 hi0 hz0 hz1 hz2 rfl (by decide) v o.length (Lib.byteCells o) rfl ?hown _ 1 1 [.int .u8 y] rfl rfl ?hnews ?hone (by decide) ?h63 ?hby ?hbase _ rfl ?_; (case hown => exact own_alloc HR.out _); (case hnews => exact (World.news_of_block (cs := #[.int .u8 y]) (t := 5) (fr := (0, 0)) (heap_alloc_new _ _))); (case hone => (intro u hu; simp at hu; subst hu; rfl)); (case h63 => exact HLN.out.1); (case hby => exact HLN.out.2); (case hbase => (have := HB.out.size; simp; omega)); intro g9 cap9 w9 hown hgrow hat hlt; have HO := Lib.hid hown; have HGR := Lib.hid hgrow; clear hown hgrow hat hlt))))
      go_roundw
      case measure => have h1 := HK.out; have h2 := K5.out; simp [intOf]; omega
      case rel =>
       have h1 := HK.out
       have h2 := K5.out
       refine ⟨k + 1, q, 0, nb, o ++ [y.toNat.toUInt8], by omega, rfl, rfl, rfl, by go_num, by decide, Lib.hid ?_, Lib.hid ⟨hq0, hq1⟩, Lib.hid ?_, Lib.hid ?_, Lib.hid ?_, Lib.hid ?_, Lib.hid ?_⟩
       · rw [HFB.out, HFE.out]; simp [upon]
       · have := HO1.out; simp; omega
       · have := HN1.out; omega
       ·
        have h := HO.out
        rw [Lib.byteCells_append, ← bcell, HYB.out, List.length_append]
        exact h
       · exact (HGR.out.block g (by have := blk_lt HG.out; simp; omega) (Lib.ownBlock_ne HR.out HG.out (by decide)).symm).trans (blk_alloc HG.out _)
       · exact below_app HB.out HGR.out ⟨_, ⟨rfl, rfl, rfl, rfl⟩⟩ (fun k hk => own_base HR.out k hk)
end Go.Proofs.YtigcbajcifhinaaGreatDoor.Txt
namespace Go.Proofs.YtigcbajcifhinaaGreatDoor.Txt
open Go.RowKit Go.Proofs.YtigcbajcifhinaaGreatDoorW.PrintWords Go.Proofs.YtigcbajcifhinaaGreatDoor.V
theorem keep_blk {W W' : World} {g1 k t : Nat} {cells : Array Value} (h : Lib.OthersKept 5 (some g1) W W') (hb : W.heap[k]? = some (.cells cells t (0, 0))) (hk : k ≠ g1) (ht : t ≠ 5) : W'.heap[k]? = some (.cells cells t (0, 0)) :=
 h k _ hb (by simpa using hk) (fun c fz e => ht (by injection e))
theorem R_kept {W W' : World} {g1 B : Nat} {ok : Nat → Prop} {v : Value} {l : List S43} {cs : Array Value} (hR : Kd.R k43 43 W B ok v l) (h : Lib.OthersKept 5 (some g1) W W') (hg : W.heap[g1]? = some (.cells cs 68 (0, 0))) : Kd.R k43 43 W' B ok v l := by
 refine Kd.R_mono (Kd.R_step (Kd.R_bound hR) (fun k hk hlt => ?_)) (fun _ h => h.1)
 obtain ⟨_, _, _, q, hq, cells, hc⟩ := hk
 have hq43 : q = 43 := by
  rcases List.mem_cons.1 hq with h | h
  · exact h
  · cases h
 subst hq43
 rw [hc]
 refine keep_blk h hc ?_ (by decide)
 rintro rfl
 rw [hc] at hg
 injection hg with hg
 injection hg with _ hg
 cases hg
theorem bb_blk {B b : Nat} {l : List UInt8} {w : World} (h : BB B b l w) : ∃ p v, w.heap[b]? = some (.cells #[p, v] 68 (0, 0)) ∧ B ≤ b := by
 rcases h with h | h
 ·
  obtain ⟨hB, v, hb, _⟩ := h
  exact ⟨_, v, hb, hB⟩
 ·
  obtain ⟨hB, v, hb, _⟩ := h
  exact ⟨_, v, hb, hB⟩
theorem bstringK (B b : Nat) (l : List UInt8) (w : World) (h : BB B b l w) (hBw : B ≤ w.heap.size) :
  Calls Tryz.prog 36 #[.pointer (some ⟨b, 0, none⟩)] w fun e w' => e = .returned (.string ⟨l.toArray⟩) ∧ BB B b l w' ∧ Below B w w' ∧ Lib.OthersKept 5 (some b) w w' :=
 Tryz.Builder_String_any_k B b l w h hBw
theorem bwriteK (B b : Nat) (l : List UInt8) (s : ByteArray) (w : World) (h : BB B b l w) (hlen : l.length + s.size ≤ 140737488355328) (hBw : B ≤ w.heap.size) :
  Calls Tryz.prog 41 #[.pointer (some ⟨b, 0, none⟩), .string s] w fun e w' => (∃ x y, e = .returned (.tuple #[x, y])) ∧ BB B b (l ++ s.data.toList) w' ∧ Below B w w' ∧ Lib.OthersKept 5 (some b) w w' := by
 refine (Tryz.Builder_WriteString_k B b (Lib.byteCells l) s w h (by rw [Lib.byteCells_length]; exact hlen) hBw).mono ?_
 rintro e w' ⟨rfl, h1, h2, h3⟩
 refine ⟨⟨_, _, rfl⟩, .inr ?_, h2, h3⟩
 rw [Lib.byteCells_append, ← Lib.strCells_eq]
 exact h1
theorem bb_reset {B b : Nat} {w : World} {p v : Value} (hB : B ≤ b) (hb : w.heap[b]? = some (.cells #[p, v] 68 (0, 0))) : BB B b [] ((w.setCell ⟨b, 0, none⟩ (.pointer none)).setCell ⟨b, 1, none⟩ (.slice none 0 0)) := by
 have h1 := blk_set hb 0 (.pointer none)
 have h2 := blk_set h1 1 (.slice none 0 0)
 exact .inl ⟨hB, _, h2, World.ownsRowF_nil _ _ _ _, by simp [Value.ownBlock]⟩
def trimB (b : List UInt8) : ByteArray := ⟨(Lib.trimS b [32, 9]).toArray⟩
def closeF (n : Nat) (l : List S43) (b : List UInt8) : List S43 := if 0 < n ∧ n ≤ 1024 then l.set (n - 1) ⟨(l.getD (n - 1) z43).f0, trimB b⟩ else l
structure Head (B g0 g1 g2 : Nat) (n : Nat) (l : List S43) (b : List UInt8) (v : Value) (W : World) : Prop where
 h0 : W.heap[g0]? = some (.cells #[v] 39 (0, 0))
 h1 : BB B g1 b W
 h2 : W.heap[g2]? = some (.cells #[.int .i64 (n : Int)] 3 (0, 0))
 hv : Kd.R k43 43 W B (fun _ => True) v l
 b0 : B ≤ g0
 b2 : B ≤ g2
theorem Head.kept {B g0 g1 g2 n : Nat} {l : List S43} {b b' : List UInt8} {v : Value} {W W' : World} (h : Head B g0 g1 g2 n l b v W) (hk : Lib.OthersKept 5 (some g1) W W') (hb : BB B g1 b' W') : Head B g0 g1 g2 n l b' v W' := by
 obtain ⟨p, q, hg, _⟩ := bb_blk h.h1
 have ne : ∀ {k t : Nat} {cs : Array Value}, W.heap[k]? = some (.cells cs t (0, 0)) → t ≠ 68 → k ≠ g1 := by
  rintro k t cs hc ht rfl
  rw [hc] at hg
  injection hg with hg
  injection hg with _ hg
  exact ht hg
 exact ⟨keep_blk hk h.h0 (ne h.h0 (by decide)) (by decide), hb, keep_blk hk h.h2 (ne h.h2 (by decide)) (by decide), R_kept h.hv hk hg, h.b0, h.b2⟩
theorem bb_below {B g1 : Nat} {b : List UInt8} {W W' : World} (h : BB B g1 b W) (hb : Below W.heap.size W W') : BB B g1 b W' := by
 have mv : ∀ {p : Value}, Lib.BuilderAtF 68 5 B g1 p (Lib.byteCells b) W → Lib.BuilderAtF 68 5 B g1 p (Lib.byteCells b) W' := by
  rintro p ⟨hB, v, hc, ho, hne⟩
  refine ⟨hB, v, blk_below hc hb, ?_, hne⟩
  exact ho.kept (grown_of_below hb none) (by cases v.ownBlock <;> simp)
 rcases h with h | h
 · exact .inl (mv h)
 · exact .inr (mv h)
theorem Head.below {B g0 g1 g2 n : Nat} {l : List S43} {b : List UInt8} {v : Value} {W W' : World} (h : Head B g0 g1 g2 n l b v W) (hb : Below W.heap.size W W') : Head B g0 g1 g2 n l b v W' :=
 ⟨blk_below h.h0 hb, bb_below h.h1 hb, blk_below h.h2 hb, Kd.R_below h.hv hb, h.b0, h.b2⟩
theorem Head.drewN {B g0 g1 g2 n : Nat} {l : List S43} {b : List UInt8} {v : Value} {W : World} (h : Head B g0 g1 g2 n l b v W) (m : Nat) : Head B g0 g1 g2 n l b v (W.drewN m) := h.below (pw_below_drewN (Below.refl _ _) m)
theorem reset_any (g1 : Nat) (p q : Value) (W : World) (hg : W.heap[g1]? = some (.cells #[p, q] 68 (0, 0))) :
  Calls Tryz.prog 37 #[.pointer (some ⟨g1, 0, none⟩)] W fun e w' => e = .returned (.tuple #[]) ∧ w' = (W.setCell ⟨g1, 0, none⟩ (.pointer none)).setCell ⟨g1, 1, none⟩ (.slice none 0 0) := by
 have d0 : W.cell? ⟨g1, 0, none⟩ = some p := blk_cell hg 0
 have d1 : W.cell? ⟨g1, 1, none⟩ = some q := blk_cell hg 1
 have df := fun j => blk_frozen hg j
 go_enter Tryz.func37, Tryz.ntmps37
 go_wp2
 go_end0
 exact ⟨rfl, rfl⟩
theorem reset_bb (B g1 : Nat) (b : List UInt8) (W : World) (h : BB B g1 b W) :
  Calls Tryz.prog 37 #[.pointer (some ⟨g1, 0, none⟩)] W fun e w' => e = .returned (.tuple #[]) ∧ BB B g1 [] w' ∧ Below B W w' ∧ Lib.OthersKept 5 (some g1) W w' := by
 obtain ⟨p, q, hg, hBg⟩ := bb_blk h
 refine (reset_any g1 p q W hg).mono ?_
 rintro e w' ⟨rfl, rfl⟩
 exact ⟨rfl, bb_reset hBg hg, ((Below.refl B W).setCell (p := ⟨g1, 0, none⟩) hBg _).setCell (p := ⟨g1, 1, none⟩) hBg _, ((Lib.OthersKept.refl _ _ W).setCell ⟨g1, 0, none⟩ rfl _).setCell ⟨g1, 1, none⟩ rfl _⟩
theorem close_none (B g0 g1 g2 n : Nat) (l : List S43) (b : List UInt8) (v : Value) (W : World) (h : Head B g0 g1 g2 n l b v W) (hn : ¬ (0 < n ∧ n ≤ 1024)) :
  Calls Tryz.prog 34 #[.pointer (some ⟨g2, 0, none⟩), .pointer (some ⟨g1, 0, none⟩), .pointer (some ⟨g0, 0, none⟩)] W fun e w' => e = .returned (.tuple #[]) ∧ Head B g0 g1 g2 n l [] v w' ∧ Below B W w' := by
 have c2 : W.cell? ⟨g2, 0, none⟩ = some (.int .i64 (n : Int)) := blk_cell h.h2 0
 have HR := Lib.hid (reset_bb B g1 b W h.h1)
 have HH := Lib.hid h
 have hcase : n = 0 ∨ (0 < n ∧ 1024 < n) := by omega
 clear h
 rcases hcase with h0 | ⟨h0, h1⟩
 ·
  subst h0
  clear hn
  go_enter Tryz.func34, Tryz.ntmps34
  go_wp2_with (go_at_call 37; refine HR.out.mono ?_; rintro e w1 ⟨rfl, r1, r2, r3⟩; have R1 := Lib.hid r1; have R2 := Lib.hid r2; have R3 := Lib.hid r3; clear r1 r2 r3)
  go_end0
  exact ⟨rfl, HH.out.kept R3.out R1.out, R2.out⟩
 ·
  have e1 : decide ((0 : Int) < (n : Int)) = true := decide_eq_true (by omega)
  have e2 : decide ((n : Int) ≤ 1024) = false := decide_eq_false (by omega)
  clear hn
  go_enter Tryz.func34, Tryz.ntmps34
  go_wp2_with (go_at_call 37; refine HR.out.mono ?_; rintro e w1 ⟨rfl, r1, r2, r3⟩; have R1 := Lib.hid r1; have R2 := Lib.hid r2; have R3 := Lib.hid r3; clear r1 r2 r3)
  go_end0
  exact ⟨rfl, HH.out.kept R3.out R1.out, R2.out⟩
theorem head_put {B g0 g1 g2 n : Nat} {l : List S43} {b : List UInt8} {gr cap : Nat} {W : World} (h : Head B g0 g1 g2 n l b (.slice (some ⟨gr, 0, none⟩) l.length cap) W) (i : Nat) (hi : i < l.length) (t : ByteArray) :
  Head B g0 g1 g2 n (l.set i ⟨(l.getD i z43).f0, t⟩) b (.slice (some ⟨gr, 0, none⟩) l.length cap) (W.setCell ⟨gr, i * 2 + 1, none⟩ (.string t)) ∧ Below B W (W.setCell ⟨gr, i * 2 + 1, none⟩ (.string t)) := by
 obtain ⟨c, hcl, hM, hcc, hf⟩ := Kd.R_elem h.hv z43 (i : Int) (by omega) (by omega)
 have ho := k43_openM hM
 rw [Int.toNat_natCast] at hcc ho
 subst ho
 have hs := Kd.R_seg (okp := fun _ => False) (seg := [.string t]) (j := 1) (x' := (⟨(l.getD i z43).f0, t⟩ : S43)) h.hv (i : Int) (by omega) (by omega) hcl (by rw [Int.toNat_natCast]; exact hcc) (by show 1 + 1 ≤ 2; decide) (k43_mkM W B _ (⟨(l.getD i z43).f0, t⟩ : S43)) (fun _ h => h.elim)
 rw [Int.toNat_natCast] at hs
 have hty := Kd.R_typed h.hv gr (by simp [Value.ownBlock])
 obtain ⟨cells, hc⟩ := hty
 have ne : ∀ {k q : Nat} {cs : Array Value}, W.heap[k]? = some (.cells cs q (0, 0)) → q ≠ 43 → some k ≠ some gr := by
  rintro k q cs hk hq e
  injection e with e
  subst e
  rw [hk] at hc
  injection hc with hc
  injection hc with _ hc
  exact hq hc
 have hg : W.grownBy (W.setCell ⟨gr, i * 2 + 1, none⟩ (.string t)) (some gr) := hs.2
 have hbb : BB B g1 b (W.setCell ⟨gr, i * 2 + 1, none⟩ (.string t)) := by
  obtain ⟨p, q, hgb, _⟩ := bb_blk h.h1
  have mv : ∀ {p : Value}, Lib.BuilderAtF 68 5 B g1 p (Lib.byteCells b) W → Lib.BuilderAtF 68 5 B g1 p (Lib.byteCells b) (W.setCell ⟨gr, i * 2 + 1, none⟩ (.string t)) := by
   rintro p ⟨hB, v, hc1, ho, hne⟩
   refine ⟨hB, v, blk_grown hc1 hg (ne hc1 (by decide)), ho.kept hg ?_, hne⟩
   exact .inr (Lib.ownBlock_neF ho hc (by decide))
  rcases h.h1 with h1 | h1
  · exact .inl (mv h1)
  · exact .inr (mv h1)
 refine ⟨⟨blk_grown h.h0 hg (ne h.h0 (by decide)), hbb, blk_grown h.h2 hg (ne h.h2 (by decide)), ?_, h.b0, h.b2⟩, ?_⟩
 · exact hs.1
 · exact (Below.refl B W).setCell (p := ⟨gr, i * 2 + 1, none⟩) (Kd.R_base h.hv gr (by simp [Value.ownBlock])) _
theorem head_elem {B g0 g1 g2 n : Nat} {l : List S43} {b : List UInt8} {gr cap : Nat} {W : World} (h : Head B g0 g1 g2 n l b (.slice (some ⟨gr, 0, none⟩) l.length cap) W) (i : Nat) (hi : i < l.length) :
  W.cell? ⟨gr, i * 2, none⟩ = some (.string (l.getD i z43).f0) ∧ W.cell? ⟨gr, i * 2 + 1, none⟩ = some (.string (l.getD i z43).f1) ∧ W.frozen? ⟨gr, i * 2 + 1, none⟩ = false := by
 obtain ⟨c, hcl, hM, hcc, hf⟩ := Kd.R_elem h.hv z43 (i : Int) (by omega) (by omega)
 have ho := k43_openM hM
 rw [Int.toNat_natCast] at hcc ho hf
 subst ho
 exact ⟨hcc 0 _ rfl, hcc 1 _ rfl, hf 1⟩
theorem close_some (B g0 g1 g2 n : Nat) (l : List S43) (b : List UInt8) (gr cap : Nat) (W : World) (h : Head B g0 g1 g2 (n + 1) l b (.slice (some ⟨gr, 0, none⟩) l.length cap) W) (hn : n + 1 ≤ 1024) (hl : l.length = n + 1) (hB : B ≤ W.heap.size) (hbl : b.length ≤ 17592186044416) :
  Calls Tryz.prog 34 #[.pointer (some ⟨g2, 0, none⟩), .pointer (some ⟨g1, 0, none⟩), .pointer (some ⟨g0, 0, none⟩)] W fun e w' => e = .returned (.tuple #[]) ∧ Head B g0 g1 g2 (n + 1) (l.set n ⟨(l.getD n z43).f0, trimB b⟩) [] (.slice (some ⟨gr, 0, none⟩) l.length cap) w' ∧ Below B W w' := by
 have c0 : W.cell? ⟨g0, 0, none⟩ = some (.slice (some ⟨gr, 0, none⟩) l.length cap) := blk_cell h.h0 0
 have c2 : W.cell? ⟨g2, 0, none⟩ = some (.int .i64 ((n : Int) + 1)) := by have := blk_cell h.h2 0; simpa using this
 have HS := Lib.hid (fun W' (h' : Head B g0 g1 g2 (n + 1) l b (.slice (some ⟨gr, 0, none⟩) l.length cap) W') (hB' : B ≤ W'.heap.size) => bstringK B g1 b W' h'.h1 hB')
 have HT := Lib.hid (fun W' => Tryz.strings_Trim_laid ⟨b.toArray⟩ ⟨#[32, 9]⟩ W' (by rw [mk_size]; omega) (by decide) (by decide))
 have e1 : decide ((0 : Int) < (n : Int) + 1) = true := decide_eq_true (by omega)
 have e2 : decide ((n : Int) + 1 ≤ 1024) = true := decide_eq_true (by omega)
 have hnl : (n : Int) < (l.length : Int) := by omega
 have hE := head_elem h n (by omega)
 have q1 := hE.2.1
 have q2 := hE.2.2
 have HH := Lib.hid h
 have HBB := Lib.hid hB
 have HL := Lib.hid hl
 have hn64 : (n : Int) ≤ 1024 := by omega
 have hn0 : (0 : Int) ≤ (n : Int) := by omega
 have hw : IntKind.i64.wrap (n : Int) = n := by simp [IntKind.wrap, IntKind.bits, IntKind.signed]; omega
 clear h hB hE hn hl hbl
 go_enter Tryz.func34, Tryz.ntmps34
 go_wp2
 go_wp2_with fail
 go_region_with (first
  | (go_at_call 36; go_loud (refine Calls.mono (HS.out W.drew (HH.out.below (below_drew (Below.refl _ _))) HBB.out) ?_; rintro e w1 ⟨rfl, r1, r2, r3⟩; have HH1 := Lib.hid ((HH.out.below (W' := W.drew) (below_drew (Below.refl _ _))).kept r3 r1); have R2 := Lib.hid r2; clear r1 r2 r3; have d0 := blk_cell HH1.out.h0 0; have d2 := blk_cell HH1.out.h2 0; have x1 := (head_elem HH1.out n (by have := HL.out; omega)).2.1; have x2 := (head_elem HH1.out n (by have := HL.out; omega)).2.2))
  | (go_at_call 35; refine Calls.mono (HT.out _) ?_; rintro e w2 ⟨rfl, s1⟩; have HH2 := Lib.hid (HH1.out.below s1); have S1 := Lib.hid s1; clear s1; have d0 := blk_cell HH2.out.h0 0; have d2 := blk_cell HH2.out.h2 0; have y1 := (head_elem HH2.out n (by have := HL.out; omega)).2.1; have y2 := (head_elem HH2.out n (by have := HL.out; omega)).2.2))
 all_goals
  obtain ⟨HP, hbp⟩ := head_put HH2.out n (by have := HL.out; omega) (trimB b)
  have RR := Lib.hid (reset_bb B g1 b _ HP.h1)
  have HPP := Lib.hid HP
  have HBP := Lib.hid hbp
  clear HP hbp
  go_wp2_with (go_at_call 37; refine Calls.mono RR.out ?_; rintro e w3 ⟨rfl, t1, t2, t3⟩; have T1 := Lib.hid t1; have T2 := Lib.hid t2; have T3 := Lib.hid t3; clear t1 t2 t3)
  go_end0
  refine ⟨rfl, HPP.out.kept T3.out T1.out, ?_⟩
  exact (((below_drew (Below.refl B W)).trans R2.out).trans (S1.out.mono (Nat.le_trans HBB.out R2.out.size))).trans (HBP.out.trans T2.out)
theorem closeF_len (n : Nat) (l : List S43) (b : List UInt8) : (closeF n l b).length = l.length := by
 unfold closeF
 split
 · rw [List.length_set]
 · rfl
theorem close_any (B g0 g1 g2 n : Nat) (l : List S43) (b : List UInt8) (v : Value) (W : World) (h : Head B g0 g1 g2 n l b v W) (hl : l.length = min n 1024) (hB : B ≤ W.heap.size) (hbl : b.length ≤ 17592186044416) :
  Calls Tryz.prog 34 #[.pointer (some ⟨g2, 0, none⟩), .pointer (some ⟨g1, 0, none⟩), .pointer (some ⟨g0, 0, none⟩)] W fun e w' => e = .returned (.tuple #[]) ∧ Head B g0 g1 g2 n (closeF n l b) [] v w' ∧ Below B W w' := by
 by_cases hn : 0 < n ∧ n ≤ 1024
 ·
  unfold closeF
  rw [if_pos hn]
  obtain ⟨m, rfl⟩ : ∃ m, n = m + 1 := ⟨n - 1, by omega⟩
  have hl' : l.length = m + 1 := by omega
  obtain ⟨g, cap, rfl, _⟩ := Kd.R_form h.hv (by omega)
  have := close_some B g0 g1 g2 m l b g cap W h hn.2 hl' hB hbl
  exact this
 ·
  unfold closeF
  rw [if_neg hn]
  exact close_none B g0 g1 g2 n l b v W h hn
theorem line_size (r : ByteArray) : (lineF r).1.size + (lineF r).2.size ≤ r.size := by
 have hc : (Lib.cut r.data.toList [10]).1.length + (Lib.cut r.data.toList [10]).2.1.length ≤ r.size := by
  rw [← list_size]
  unfold Lib.cut
  split <;> simp <;> omega
 have ht : ∀ l : List UInt8, (Lib.trimSuffix l [13]).length ≤ l.length := fun l => by
  unfold Lib.trimSuffix
  split <;> simp
 have := ht (Lib.cut r.data.toList [10]).1
 unfold lineF
 split <;> simp only [mk_size] <;> omega
theorem line_less (r : ByteArray) (h : 0 < r.size) : (lineF r).2.size < r.size := by
 show (⟨_⟩ : ByteArray).size < _
 rw [mk_size]
 have h0 : 0 < r.data.toList.length := by rw [list_size]; exact h
 rw [← list_size]
 unfold Lib.cut
 split <;> simp <;> first | omega | (rw [list_size]; omega)
theorem named_less (s : ByteArray) (h : 0 < namedF s) : namedF s < s.size := by
 unfold namedF at h ⊢
 have := nameL_le s.data.toList
 split at h
 · omega
 ·
  rename_i c t e
  have hl : (s.data.toList.drop (nameL s.data.toList)).length = t.length + 1 := by rw [e]; rfl
  rw [List.length_drop, list_size] at hl
  split <;> omega
def blankB (c : UInt8) : Bool := decide (0 ≤ Lib.indexByte [32, 9] c)
def nextF (n : Nat) (l : List S43) (b : List UInt8) (line : ByteArray) : List S43 :=
 if n + 1 ≤ 1024 then closeF n l b ++ [⟨line.extract 0 (namedF line), ⟨#[]⟩⟩] else closeF n l b
def parseL : Nat → ByteArray → Nat → List S43 → List UInt8 → List S43 × ByteArray
 | 0, r, n, l, b => (closeF n l b, r)
 | k + 1, r, n, l, b =>
  if r.size = 0 then (closeF n l b, r)
  else if (lineF r).1.size = 0 then (closeF n l b, (lineF r).2)
  else if blankB ((lineF r).1.data.toList.getD 0 0) = true ∧ 0 < n then parseL k (lineF r).2 n l (b ++ (lineF r).1.data.toList)
  else if 0 < namedF (lineF r).1 then parseL k (lineF r).2 (n + 1) (nextF n l b (lineF r).1) ((lineF r).1.extract (namedF (lineF r).1 + 1) (lineF r).1.size).data.toList
  else (closeF n l b, r)
def parseF (s : ByteArray) : List S43 × ByteArray := parseL s.size s 0 [] []
theorem nextF_len (n : Nat) (l : List S43) (b : List UInt8) (line : ByteArray) (h : l.length = min n 1024) : (nextF n l b line).length = min (n + 1) 1024 := by
 unfold nextF
 split
 · rw [List.length_append, closeF_len]; simp; omega
 · rw [closeF_len]; omega
theorem parseL_nil (m : Nat) (r : ByteArray) (n : Nat) (l : List S43) (b : List UInt8) (h : r.size = 0) : parseL m r n l b = (closeF n l b, r) := by
 cases m with
 | zero => rfl
 | succ k => unfold parseL; rw [if_pos h]
theorem parseL_len : ∀ m r n l b, (parseL m r n l b).2.size ≤ r.size := by
 intro m
 induction m with
 | zero => intro r n l b; exact Nat.le_refl _
 | succ k ih =>
  intro r n l b
  have hl := line_size r
  unfold parseL
  split
  · exact Nat.le_refl _
  split
  ·
   show (lineF r).2.size ≤ _
   omega
  split
  · exact Nat.le_trans (ih _ _ _ _) (by omega)
  split
  · exact Nat.le_trans (ih _ _ _ _) (by omega)
  · exact Nat.le_refl _
theorem parseF_def (s : ByteArray) : parseF s = parseL s.size s 0 [] [] := rfl
theorem wrap_diff (a b : Nat) (h : b ≤ a) (ha : a ≤ 1073741824) : wrap64 ((a : Int) - (b : Int)) = ((a - b : Nat) : Int) := by
 unfold wrap64
 omega
theorem head_many {B g0 g1 g2 n : Nat} {l : List S43} {b : List UInt8} {v : Value} {W : World} (h : Head B g0 g1 g2 n l b v W) (m : Nat) (z : Int) (hz : (m : Int) = z) : Head B g0 g1 g2 m l b v (W.setCell ⟨g2, 0, none⟩ (.int .i64 z)) := by
 subst hz
 obtain ⟨p, q, hg, _⟩ := bb_blk h.h1
 have ne : ∀ {k t : Nat} {cs : Array Value}, W.heap[k]? = some (.cells cs t (0, 0)) → t ≠ 3 → k ≠ g2 := by
  rintro k t cs hc ht rfl
  have := h.h2
  rw [hc] at this
  injection this with this
  injection this with _ this
  exact ht this
 have hgr : W.grownBy (W.setCell ⟨g2, 0, none⟩ (.int .i64 (m : Int))) (some g2) := grownBy_setCell' W g2 _
 have nes : ∀ {k t : Nat} {cs : Array Value}, W.heap[k]? = some (.cells cs t (0, 0)) → t ≠ 3 → some k ≠ some g2 := fun hc ht e => ne hc ht (by injection e)
 refine ⟨blk_grown h.h0 hgr (nes h.h0 (by decide)), ?_, ?_, Kd.R_mono (Kd.R_set h.hv h.h2 ?_ 0 _) (fun _ _ => trivial), h.b0, h.b2⟩
 ·
  have mv : ∀ {p : Value}, Lib.BuilderAtF 68 5 B g1 p (Lib.byteCells b) W → Lib.BuilderAtF 68 5 B g1 p (Lib.byteCells b) (W.setCell ⟨g2, 0, none⟩ (.int .i64 (m : Int))) := by
   rintro p ⟨hB, v, hc1, ho, hne⟩
   refine ⟨hB, v, blk_grown hc1 hgr (nes hc1 (by decide)), ho.kept hgr ?_, hne⟩
   exact .inr (Lib.ownBlock_neF ho h.h2 (by decide))
  rcases h.h1 with h1 | h1
  · exact .inl (mv h1)
  · exact .inr (mv h1)
 ·
  have := blk_set h.h2 0 (.int .i64 (m : Int))
  exact this
 ·
  intro q hq
  rcases List.mem_cons.1 hq with h | h
  · subst h; decide
  · cases h
theorem head_fresh (w : World) : Head w.heap.size w.heap.size (w.heap.size + 1) (w.heap.size + 2) 0 [] [] (.slice none 0 0) (((w.alloc (.cells #[.slice none 0 0] 39)).alloc (.cells #[.pointer none, .slice none 0 0] 68)).alloc (.cells #[.int .i64 0] 3)) := by
 have e1 : (w.alloc (.cells #[.slice none 0 0] 39)).heap.size = w.heap.size + 1 := World.size_alloc _ _
 have e2 : ((w.alloc (.cells #[.slice none 0 0] 39)).alloc (.cells #[.pointer none, .slice none 0 0] 68)).heap.size = w.heap.size + 2 := by rw [World.size_alloc, e1]
 have h0 := blk_alloc (blk_alloc (heap_alloc_new w (.cells #[.slice none 0 0] 39)) (.cells #[.pointer none, .slice none 0 0] 68)) (.cells #[.int .i64 0] 3)
 have h1 := blk_alloc (heap_alloc_new (w.alloc (.cells #[.slice none 0 0] 39)) (.cells #[.pointer none, .slice none 0 0] 68)) (.cells #[.int .i64 0] 3)
 rw [e1] at h1
 have h2 := heap_alloc_new ((w.alloc (.cells #[.slice none 0 0] 39)).alloc (.cells #[.pointer none, .slice none 0 0] 68)) (.cells #[.int .i64 0] 3)
 rw [e2] at h2
 exact ⟨h0, .inl ⟨by omega, _, h1, World.ownsRowF_nil _ _ _ _, by simp [Value.ownBlock]⟩, h2, Kd.R_nil _ _ _ _ _, by omega, by omega⟩
theorem index_blank (c : UInt8) (z ix : Int) (hz : (c.toNat : Int) = z) (hix : Lib.indexByte [32, 9] c = ix) (W : World) : Calls Tryz.prog 40 #[.string ⟨#[32, 9]⟩, .int .u8 z] W fun e w' => e = .returned (.int .i64 ix) ∧ w' = W := by
 subst hz hix
 have h := Tryz.strings_IndexByte (⟨#[32, 9]⟩ : ByteArray) (c.toNat : Int) W
 simpa using h
theorem parseL_succ (k : Nat) (r : ByteArray) (n : Nat) (l : List S43) (b : List UInt8) (x y : ByteArray) (hx : (lineF r).1 = x) (hy : (lineF r).2 = y) (h0 : 0 < r.size) :
  parseL (k + 1) r n l b = if x.size = 0 then (closeF n l b, y)
   else if blankB (x.data.toList.getD 0 0) = true ∧ 0 < n then parseL k y n l (b ++ x.data.toList)
   else if 0 < namedF x then parseL k y (n + 1) (nextF n l b x) (x.extract (namedF x + 1) x.size).data.toList
   else (closeF n l b, r) := by
 subst hx hy
 rw [parseL, if_neg (by omega)]
theorem head_app {B g0 g1 g2 n : Nat} {l l1 : List S43} {b : List UInt8} {v v1 : Value} {W w1 : World} (h : Head B g0 g1 g2 n l b v W) (hR : Kd.R k43 43 w1 B (fun _ => True) v1 l1) (hg : W.grownBy w1 v.ownBlock) : Head B g0 g1 g2 n l1 b v1 (w1.setCell ⟨g0, 0, none⟩ v1) := by
 have m0 := blk_grown h.h0 hg (Kd.R_ne h.hv h.h0 (by decide))
 have m2 := blk_grown h.h2 hg (Kd.R_ne h.hv h.h2 (by decide))
 have hgr : w1.grownBy (w1.setCell ⟨g0, 0, none⟩ v1) (some g0) := grownBy_setCell' w1 g0 _
 have ne : ∀ {k t : Nat} {cs : Array Value}, w1.heap[k]? = some (.cells cs t (0, 0)) → t ≠ 39 → some k ≠ some g0 := by
  rintro k t cs hc ht e
  injection e with e
  subst e
  rw [hc] at m0
  injection m0 with m0
  injection m0 with _ m0
  exact ht m0
 refine ⟨?_, ?_, blk_grown m2 hgr (ne m2 (by decide)), Kd.R_mono (Kd.R_set hR m0 ?_ 0 _) (fun _ _ => trivial), h.b0, h.b2⟩
 ·
  have := blk_set m0 0 v1
  exact this
 ·
  have mv : ∀ {p : Value}, Lib.BuilderAtF 68 5 B g1 p (Lib.byteCells b) W → Lib.BuilderAtF 68 5 B g1 p (Lib.byteCells b) (w1.setCell ⟨g0, 0, none⟩ v1) := by
   rintro p ⟨hB, u, hc1, ho, hne⟩
   have hc2 := blk_grown hc1 hg (Kd.R_ne h.hv hc1 (by decide))
   have ho2 := ho.kept hg (by
    cases e : v.ownBlock with
    | none => cases u.ownBlock <;> simp
    | some k =>
     obtain ⟨cells, hc⟩ := Kd.R_typed h.hv k e
     exact .inr (Lib.ownBlock_neF ho hc (by decide)))
   refine ⟨hB, u, blk_grown hc2 hgr (ne hc2 (by decide)), ho2.kept hgr ?_, hne⟩
   exact .inr (Lib.ownBlock_neF ho2 m0 (by decide))
  rcases h.h1 with h1 | h1
  · exact .inl (mv h1)
  · exact .inr (mv h1)
 ·
  intro q hq
  rcases List.mem_cons.1 hq with h | h
  · subst h; decide
  · cases h
theorem ext_size2 (s : ByteArray) (k : Nat) (h : k ≤ s.size) : (s.extract k s.size).size = s.size - k := by simp
theorem ext_le (s : ByteArray) (a b : Nat) : (s.extract a b).size ≤ s.size := by simp; omega
def leftP (a' : Act) : Nat := match a'.tmps.getD 7 undef with | .string r => r.size | _ => 0
def ParseJ (s : ByteArray) (w : World) (a' : Act) (w' : World) : Prop :=
 ∃ (r : ByteArray) (m n : Nat) (l : List S43) (b : List UInt8) (v : Value) (u1 u9 u10 u11 u12 u13 u14 u15 u16 u17 u18 u19 u20 u21 u22 u23 u24 u25 u26 u27 u28 u29 u30 u31 u32 u33 u34 u35 u36 u37 u38 u39 u40 u41 u42 u43 u44 u45 u46 u47 u48 u49 u50 u51 u52 u53 u54 u55 u56 u57 u58 u59 u60 u61 u62 u63 u64 u65 u66 u67 u68 u69 : Value), a' = { tmps := #[.string s, u1, .slice none 0 0, .int .i64 0, .pointer (some ⟨w.heap.size, 0, none⟩), .pointer (some ⟨w.heap.size + 1, 0, none⟩), .pointer (some ⟨w.heap.size + 2, 0, none⟩), .string r, .func (.func 34) #[] #[.pointer (some ⟨w.heap.size + 2, 0, none⟩), .pointer (some ⟨w.heap.size + 1, 0, none⟩), .pointer (some ⟨w.heap.size, 0, none⟩)], u9, u10, u11, u12, u13, u14, u15, u16, u17, u18, u19, u20, u21, u22, u23, u24, u25, u26, u27, u28, u29, u30, u31, u32, u33, u34, u35, u36, u37, u38, u39, u40, u41, u42, u43, u44, u45, u46, u47, u48, u49, u50, u51, u52, u53, u54, u55, u56, u57, u58, u59, u60, u61, u62, u63, u64, u65, u66, u67, u68, u69], defers := [] } ∧
  Hid (parseL m r n l b = parseL s.size s 0 [] []) ∧ Hid (r.size ≤ m) ∧ Hid (b.length + r.size ≤ s.size) ∧ Hid (l.length = min n 1024) ∧ Hid (n + r.size ≤ s.size) ∧ Hid (Head w.heap.size w.heap.size (w.heap.size + 1) (w.heap.size + 2) n l b v w') ∧ Hid (Below w.heap.size w w')
theorem parse_any (s : ByteArray) (w : World) (hT : Tabs w) (hs : s.size ≤ 1073741824) :
  Calls Tryz.prog 16 #[.string s] w fun e w' => ∃ v, e = .returned (.tuple #[v, .int .i64 ((s.size - (parseF s).2.size : Nat) : Int)]) ∧ Kd.R k43 43 w' w.heap.size (fun _ => True) v (parseF s).1 ∧ Below w.heap.size w w' := by
 have HL := Lib.hid hs
 have HTT := Lib.hid hT
 clear hs hT
 go_enter Tryz.func16, Tryz.ntmps16
 go_wp2
 refine scope_label 0 (ParseJ s w) (fun a' _ => leftP a') rfl ?pass ?first
 case first =>
  intro hp
  have HP := Lib.hid hp
  clear hp
  go_wp2
  rename_i hK
  refine wp_label (hK _ _ (HP.out _ _ ?_))
  refine ⟨s, s.size, 0, [], [], .slice none 0 0, _, _, _, _, _, _, _, _, _, _, _, _, _, _, _, _, _, _, _, _, _, _, _, _, _, _, _, _, _, _, _, _, _, _, _, _, _, _, _, _, _, _, _, _, _, _, _, _, _, _, _, _, _, _, _, _, _, _, _, _, _, _, rfl, Lib.hid rfl, Lib.hid (Nat.le_refl _), Lib.hid (by simp), Lib.hid (by simp), Lib.hid (by simp), Lib.hid ?_, Lib.hid ?_⟩
  · exact head_fresh w
  · exact (((Below.refl _ _).alloc (Nat.le_refl _) _).alloc (by rw [World.size_alloc]; omega) _).alloc (by rw [World.size_alloc, World.size_alloc]; omega) _
 case pass =>
  rintro a' wr ⟨r, m, n, l, b, v, u1, u9, u10, u11, u12, u13, u14, u15, u16, u17, u18, u19, u20, u21, u22, u23, u24, u25, u26, u27, u28, u29, u30, u31, u32, u33, u34, u35, u36, u37, u38, u39, u40, u41, u42, u43, u44, u45, u46, u47, u48, u49, u50, u51, u52, u53, u54, u55, u56, u57, u58, u59, u60, u61, u62, u63, u64, u65, u66, u67, u68, u69, rfl, HG, HM, HA, HLL, HN, HH, HB⟩
  obtain ⟨x, hx⟩ : ∃ x, (lineF r).1 = x := ⟨_, rfl⟩
  obtain ⟨y, hy⟩ : ∃ y, (lineF r).2 = y := ⟨_, rfl⟩
  obtain ⟨k, hk⟩ : ∃ k, namedF x = k := ⟨_, rfl⟩
  have hxy := line_size r
  have hless := line_less r
  rw [hx, hy] at hxy
  rw [hy] at hless
  have hr30 : r.size ≤ 1073741824 := by have := HA.out; have := HL.out; omega
  have LN := Lib.hid (by have := line_any r wr (tabs_below HTT.out HB.out) hr30; rw [hx, hy] at this; exact this)
  have NM := Lib.hid (fun W => by have := named_any x W (by omega); rw [hk] at this; exact this)
  have CL := Lib.hid (fun W h h' => close_any w.heap.size w.heap.size (w.heap.size + 1) (w.heap.size + 2) n l b v W h HLL.out h' (by have := HA.out; have := HL.out; omega))
  have HXY := Lib.hid hxy
  have HLE := Lib.hid hless
  have HX := Lib.hid hx
  have HY := Lib.hid hy
  have HK := Lib.hid hk
  clear hxy hless hr30 hx hy hk
  cases er : r.toList.isEmpty with
  | true =>
   have h0 : r.size = 0 := by rw [empty_of] at er; exact of_decide_eq_true er
   have h0' := Lib.hid h0
   clear h0
   go_wp2_with (first | (go_at_call 38; refine (LN.out).mono ?_; rintro e w1 ⟨rfl, ⟨n1, rfl⟩⟩) | (go_at_call 39; refine (NM.out _).mono ?_; rintro e w2 ⟨rfl, rfl⟩) | (go_at_call 40; refine (IB.out _).mono ?_; rintro e w3 ⟨rfl, rfl⟩) | (go_at_call 34; refine Calls.mono (CL.out _ (HH.out.drewN _) HB.out.size) ?_; rintro e w4 ⟨rfl, h1, h2⟩; have H1 := Lib.hid h1; have H2 := Lib.hid h2; have c0 := blk_cell H1.out.h0 0; clear h1 h2))
   simp only [Exit.jump]
   go_ret2
   have HF := HG.out
   rw [parseL_nil _ _ _ _ _ h0'.out] at HF
   have hl2 := parseL_len s.size s 0 [] []
   rw [← HF] at hl2
   refine ⟨v, ?_, ?_, ?_⟩
   ·
    rw [parseF_def, ← HF]
    have hw : wrap64 ((s.size : Int) - (r.size : Int)) = ((s.size - r.size : Nat) : Int) := wrap_diff _ _ hl2 (by have := HL.out; omega)
    show Ending.returned (Value.tuple #[v, Value.int IntKind.i64 (wrap64 ((s.size : Int) - (r.size : Int)))]) = _
    rw [hw]
   ·
    rw [parseF_def, ← HF]
    exact H1.out.hv
   · exact (pw_below_drewN HB.out _).trans H2.out
  | false =>
   have h0 : 0 < r.size := by
    rw [empty_of] at er
    have := of_decide_eq_false er
    omega
   obtain ⟨m, rfl⟩ : ∃ q, m = q + 1 := ⟨m - 1, by have := HM.out; omega⟩
   have HR0 := Lib.hid h0
   clear h0
   cases ex : x.toList.isEmpty with
   | true =>
    have hx0 := Lib.hid (show x.size = 0 by rw [empty_of] at ex; exact of_decide_eq_true ex)
    go_wp2_with (first | (go_at_call 38; refine (LN.out).mono ?_; rintro e w1 ⟨rfl, ⟨n1, rfl⟩⟩) | (go_at_call 39; refine (NM.out _).mono ?_; rintro e w2 ⟨rfl, rfl⟩) | (go_at_call 40; refine (IB.out _).mono ?_; rintro e w3 ⟨rfl, rfl⟩) | (go_at_call 34; refine Calls.mono (CL.out _ (HH.out.drewN _) HB.out.size) ?_; rintro e w4 ⟨rfl, h1, h2⟩; have H1 := Lib.hid h1; have H2 := Lib.hid h2; have c0 := blk_cell H1.out.h0 0; clear h1 h2))
    simp only [Exit.jump]
    go_ret2
    have HF := HG.out
    rw [parseL_succ _ _ _ _ _ x y HX.out HY.out HR0.out, if_pos hx0.out] at HF
    have hl2 := parseL_len s.size s 0 [] []
    rw [← HF] at hl2
    refine ⟨v, ?_, ?_, ?_⟩
    ·
     rw [parseF_def, ← HF]
     have hw : wrap64 ((s.size : Int) - (y.size : Int)) = ((s.size - y.size : Nat) : Int) := wrap_diff _ _ hl2 (by have := HL.out; omega)
     show Ending.returned (Value.tuple #[v, Value.int IntKind.i64 (wrap64 ((s.size : Int) - (y.size : Int)))]) = _
     rw [hw]
    ·
     rw [parseF_def, ← HF]
     exact H1.out.hv
    · exact (pw_below_drewN HB.out _).trans H2.out
   | false =>
    have hx0 : 0 < x.size := by
     rw [empty_of] at ex
     have := of_decide_eq_false ex
     omega
    have hx0i : (0 : Int) < (x.size : Int) := by omega
    obtain ⟨c, hc, hb⟩ := cons_of x hx0
    obtain ⟨z, hz⟩ : ∃ z : Int, (c.toNat : Int) = z := ⟨_, rfl⟩
    obtain ⟨ix, hix⟩ : ∃ ix : Int, Lib.indexByte [32, 9] c = ix := ⟨_, rfl⟩
    have IB := Lib.hid (fun W => index_blank c z ix hz hix W)
    have HC := Lib.hid (show x.data.toList.getD 0 0 = c by rw [hc]; rfl)
    rw [hz] at hb
    have HX0 := Lib.hid hx0
    have hbl : blankB (x.data.toList.getD 0 0) = decide (0 ≤ ix) := by rw [HC.out]; unfold blankB; rw [hix]
    have hn64 : (n : Int) ≤ 1073741824 := by have := HN.out; have := HL.out; omega
    clear hc hz hix hx0
    cases e1 : decide (0 ≤ ix) with
    | false =>
     have HBL := Lib.hid (show ¬ (blankB (x.data.toList.getD 0 0) = true ∧ 0 < n) by rw [hbl, e1]; simp)
     clear hbl
     by_cases hk0 : 0 < k
     ·
      have e3 : decide ((0 : Int) < (k : Int)) = true := decide_eq_true (by omega)
      have hkx := named_less x (by rw [HK.out]; exact hk0)
      rw [HK.out] at hkx
      have e5 : (k : Int) < (x.size : Int) := by omega
      have hkle : k ≤ x.size := by omega
      have e6 : (x.size : Int) ≤ 1073741824 := by have := HXY.out; have := HA.out; have := HL.out; omega
      have HK0 := Lib.hid hk0
      have BW3 := Lib.hid (fun W (h : BB w.heap.size (w.heap.size + 1) [] W) (hB : w.heap.size ≤ W.heap.size) => bwriteK w.heap.size (w.heap.size + 1) [] (x.extract (k + 1) x.size) W h (by have := ext_le x (k + 1) x.size; have := HXY.out; have := HA.out; have := HL.out; simp only [List.length_nil]; omega) hB)
      have HKX := Lib.hid hkx
      clear hk0 hkx
      by_cases hm : n + 1 ≤ 1024
      ·
       have e4 : decide ((n : Int) + 1 ≤ 1024) = true := decide_eq_true (by omega)
       have HM4 := Lib.hid hm
       clear hm
       go_wp2_with (first | (go_at_call 38; refine (LN.out).mono ?_; rintro e w1 ⟨rfl, ⟨n1, rfl⟩⟩) | (go_at_call 39; refine (NM.out _).mono ?_; rintro e w2 ⟨rfl, rfl⟩) | (go_at_call 40; refine (IB.out _).mono ?_; rintro e w3 ⟨rfl, rfl⟩) | (go_at_call 34; refine Calls.mono (CL.out _ (HH.out.drewN _) HB.out.size) ?_; rintro e w4 ⟨rfl, h1, h2⟩; have H1 := Lib.hid h1; have H2 := Lib.hid h2; have c0 := blk_cell H1.out.h0 0; have d2 := blk_cell H1.out.h2 0; have f2 := fun j => blk_frozen H1.out.h2 j; clear h1 h2))
       obtain ⟨W5, hW5⟩ : ∃ W5, w4.setCell ⟨w.heap.size + 2, 0, none⟩ (.int .i64 ((n : Int) + 1)) = W5 := ⟨_, rfl⟩
       have H5 := Lib.hid (show Head w.heap.size w.heap.size (w.heap.size + 1) (w.heap.size + 2) (n + 1) (closeF n l b) [] v W5 by rw [← hW5]; exact head_many H1.out (n + 1) ((n : Int) + 1) rfl)
       have HB5 := Lib.hid (show Below w.heap.size w W5 by rw [← hW5]; exact ((pw_below_drewN HB.out _).trans H2.out).setCell (p := ⟨w.heap.size + 2, 0, none⟩) (by simp) _)
       rw [hW5]
       have q0 := blk_cell H5.out.h0 0
       have q1 := fun o => blk_cell (blk_alloc (w := W5) H5.out.h0 o) 0
       have HD5 := Lib.hid (H5.out.below (below_drew (Below.refl _ _)))
       have HLC := Lib.hid (show ((closeF n l b).length + 1) * 32 ≤ 140737488355328 by rw [closeF_len]; have := HLL.out; omega)
       clear hW5
       go_region_law (refine Kd.R_append_step k43 (w0 := w) (W := W5.drew) w.heap.size ?hw (.tmp 49) (.tmp 54) 39 43 (.agg #[.string ⟨#[]⟩, .string ⟨#[]⟩]) 32 rfl Tryz.underlying39 info43 rfl (by decide) (by decide) v (closeF n l b) ⟨x.extract 0 k, ⟨#[]⟩⟩ _ (fun _ => True) (fun _ => False) rfl rfl (k43_mkM _ _ _ _) (fun _ hk => hk.elim) (fun _ _ => trivial) ?hO ?hB ?hbase HLC.out ?_; (case hw => rfl); (case hO => exact HD5.out.hv); (case hB => exact below_drew HB5.out); (case hbase => exact HB5.out.size); intro v1 w6 hR hb6 hg6 hat6; obtain ⟨ga, ca, rfl, _⟩ := Kd.R_form hR (by simp); have HR6 := Lib.hid hR; have HB6 := Lib.hid hb6; have HG6 := Lib.hid hg6; have p0 := blk_cell (blk_grown HD5.out.h0 hg6 (Kd.R_ne HD5.out.hv HD5.out.h0 (by decide))) 0; have pf := fun j => blk_frozen (blk_grown HD5.out.h0 hg6 (Kd.R_ne HD5.out.hv HD5.out.h0 (by decide))) j; clear hR hb6 hg6 hat6)
       all_goals
        have h7 := head_app HD5.out HR6.out HG6.out
        rw [List.length_append] at h7
        have H7 := Lib.hid h7
        have HB7 := Lib.hid (HB6.out.setCell (p := ⟨w.heap.size, 0, none⟩) (Nat.le_refl _) (.slice (some ⟨ga, 0, none⟩) ((closeF n l b).length + 1) ca))
        clear h7
        go_wp2_with (go_at_call 41; go_loud (refine Calls.mono (BW3.out (w6.setCell ⟨w.heap.size, 0, none⟩ (.slice (some ⟨ga, 0, none⟩) ((closeF n l b).length + 1) ca)) H7.out.h1 HB7.out.size) ?_; rintro e w7 ⟨⟨p7, q7, rfl⟩, r1, r2, r3⟩; have R1 := Lib.hid r1; have R2 := Lib.hid r2; have R3 := Lib.hid r3; clear r1 r2 r3))
        go_step3
        refine ⟨rfl, ⟨y, m, n + 1, nextF n l b x, (x.extract (k + 1) x.size).data.toList, .slice (some ⟨ga, 0, none⟩) ((closeF n l b).length + 1) ca, _, _, _, _, _, _, _, _, _, _, _, _, _, _, _, _, _, _, _, _, _, _, _, _, _, _, _, _, _, _, _, _, _, _, _, _, _, _, _, _, _, _, _, _, _, _, _, _, _, _, _, _, _, _, _, _, _, _, _, _, _, _, rfl, Lib.hid ?_, Lib.hid ?_, Lib.hid ?_, Lib.hid ?_, Lib.hid ?_, Lib.hid ?_, Lib.hid ?_⟩, ?_⟩
        ·
         have h := parseL_succ m r n l b x y HX.out HY.out HR0.out
         rw [if_neg (by have := HX0.out; omega), if_neg HBL.out, HK.out, if_pos HK0.out] at h
         rw [← h]
         exact HG.out
        · have h1 := HLE.out HR0.out; have h2 := HM.out; omega
        ·
         rw [list_size, ext_size2 x (k + 1) (by have := HKX.out; omega)]
         have := HXY.out; have := HA.out; omega
        · exact nextF_len _ _ _ _ HLL.out
        · have h1 := HLE.out HR0.out; have := HN.out; omega
        ·
         rw [show nextF n l b x = closeF n l b ++ [⟨x.extract 0 k, ⟨#[]⟩⟩] by unfold nextF; rw [if_pos HM4.out]; rw [HK.out]]
         exact H7.out.kept R3.out R1.out
        · exact HB7.out.trans R2.out
        ·
         show y.size < r.size
         exact HLE.out HR0.out
      ·
       have e4 : decide ((n : Int) + 1 ≤ 1024) = false := decide_eq_false (by omega)
       have HM4 := Lib.hid hm
       clear hm
       go_wp2_with (first | (go_at_call 38; refine (LN.out).mono ?_; rintro e w1 ⟨rfl, ⟨n1, rfl⟩⟩) | (go_at_call 39; refine (NM.out _).mono ?_; rintro e w2 ⟨rfl, rfl⟩) | (go_at_call 40; refine (IB.out _).mono ?_; rintro e w3 ⟨rfl, rfl⟩) | (go_at_call 34; refine Calls.mono (CL.out _ (HH.out.drewN _) HB.out.size) ?_; rintro e w4 ⟨rfl, h1, h2⟩; have H1 := Lib.hid h1; have H2 := Lib.hid h2; have c0 := blk_cell H1.out.h0 0; have d2 := blk_cell H1.out.h2 0; have f2 := fun j => blk_frozen H1.out.h2 j; clear h1 h2) | (go_at_call 41; go_loud (refine Calls.mono (BW3.out (w4.setCell ⟨w.heap.size + 2, 0, none⟩ (.int .i64 ((n : Int) + 1))) (head_many H1.out (n + 1) ((n : Int) + 1) rfl).h1 ((((pw_below_drewN HB.out _).trans H2.out).setCell (p := ⟨w.heap.size + 2, 0, none⟩) (by simp) _)).size) ?_; rintro e w7 ⟨⟨p7, q7, rfl⟩, r1, r2, r3⟩; have R1 := Lib.hid r1; have R2 := Lib.hid r2; have R3 := Lib.hid r3; clear r1 r2 r3)))
       go_step3
       refine ⟨rfl, ⟨y, m, n + 1, nextF n l b x, (x.extract (k + 1) x.size).data.toList, v, _, _, _, _, _, _, _, _, _, _, _, _, _, _, _, _, _, _, _, _, _, _, _, _, _, _, _, _, _, _, _, _, _, _, _, _, _, _, _, _, _, _, _, _, _, _, _, _, _, _, _, _, _, _, _, _, _, _, _, _, _, _, rfl, Lib.hid ?_, Lib.hid ?_, Lib.hid ?_, Lib.hid ?_, Lib.hid ?_, Lib.hid ?_, Lib.hid ?_⟩, ?_⟩
       ·
        have h := parseL_succ m r n l b x y HX.out HY.out HR0.out
        rw [if_neg (by have := HX0.out; omega), if_neg HBL.out, HK.out, if_pos HK0.out] at h
        rw [← h]
        exact HG.out
       · have h1 := HLE.out HR0.out; have h2 := HM.out; omega
       ·
        rw [list_size, ext_size2 x (k + 1) (by have := HKX.out; omega)]
        have := HXY.out; have := HA.out; omega
       · exact nextF_len _ _ _ _ HLL.out
       · have h1 := HLE.out HR0.out; have := HN.out; omega
       ·
        rw [show nextF n l b x = closeF n l b by unfold nextF; rw [if_neg HM4.out]]
        exact (head_many H1.out (n + 1) ((n : Int) + 1) rfl).kept R3.out R1.out
       · exact (((pw_below_drewN HB.out _).trans H2.out).setCell (p := ⟨w.heap.size + 2, 0, none⟩) (by simp) _).trans R2.out
       ·
        show y.size < r.size
        exact HLE.out HR0.out
     ·
      have hk1 : k = 0 := by omega
      have HK1 := Lib.hid hk1
      have e3 : decide ((0 : Int) < (k : Int)) = false := decide_eq_false (by omega)
      go_wp2_with (first | (go_at_call 38; refine (LN.out).mono ?_; rintro e w1 ⟨rfl, ⟨n1, rfl⟩⟩) | (go_at_call 39; refine (NM.out _).mono ?_; rintro e w2 ⟨rfl, rfl⟩) | (go_at_call 40; refine (IB.out _).mono ?_; rintro e w3 ⟨rfl, rfl⟩) | (go_at_call 34; refine Calls.mono (CL.out _ (HH.out.drewN _) HB.out.size) ?_; rintro e w4 ⟨rfl, h1, h2⟩; have H1 := Lib.hid h1; have H2 := Lib.hid h2; have c0 := blk_cell H1.out.h0 0; clear h1 h2))
      simp only [Exit.jump]
      go_ret2
      have HF := HG.out
      rw [parseL_succ _ _ _ _ _ x y HX.out HY.out HR0.out, if_neg (by have := HX0.out; omega), if_neg HBL.out, HK.out, if_neg (by have := HK1.out; omega)] at HF
      have hl2 := parseL_len s.size s 0 [] []
      rw [← HF] at hl2
      refine ⟨v, ?_, ?_, ?_⟩
      ·
       rw [parseF_def, ← HF]
       have hw : wrap64 ((s.size : Int) - (r.size : Int)) = ((s.size - r.size : Nat) : Int) := wrap_diff _ _ hl2 (by have := HL.out; omega)
       show Ending.returned (Value.tuple #[v, Value.int IntKind.i64 (wrap64 ((s.size : Int) - (r.size : Int)))]) = _
       rw [hw]
      ·
       rw [parseF_def, ← HF]
       exact H1.out.hv
      · exact (pw_below_drewN HB.out _).trans H2.out
    | true =>
     have c2 : wr.cell? ⟨w.heap.size + 2, 0, none⟩ = some (.int .i64 (n : Int)) := blk_cell HH.out.h2 0
     by_cases hn0 : 0 < n
     ·
      have e2 : decide ((0 : Int) < (n : Int)) = true := decide_eq_true (by omega)
      have HBL := Lib.hid (show blankB (x.data.toList.getD 0 0) = true ∧ 0 < n by rw [hbl, e1]; exact ⟨rfl, hn0⟩)
      have HN0 := Lib.hid hn0
      have BW := Lib.hid (fun W (h : BB w.heap.size (w.heap.size + 1) b W) (hB : w.heap.size ≤ W.heap.size) => bwriteK w.heap.size (w.heap.size + 1) b x W h (by have := HXY.out; have := HA.out; have := HL.out; omega) hB)
      clear hbl
      go_wp2_with (first | (go_at_call 38; refine (LN.out).mono ?_; rintro e w1 ⟨rfl, ⟨n1, rfl⟩⟩) | (go_at_call 39; refine (NM.out _).mono ?_; rintro e w2 ⟨rfl, rfl⟩) | (go_at_call 40; refine (IB.out _).mono ?_; rintro e w3 ⟨rfl, rfl⟩) | (go_at_call 34; refine Calls.mono (CL.out _ (HH.out.drewN _) HB.out.size) ?_; rintro e w4 ⟨rfl, h1, h2⟩; have H1 := Lib.hid h1; have H2 := Lib.hid h2; have c0 := blk_cell H1.out.h0 0; have d2 := blk_cell H1.out.h2 0; have f2 := fun j => blk_frozen H1.out.h2 j; clear h1 h2) | (go_at_call 41; go_loud (refine Calls.mono (BW.out (wr.drewN n1) (HH.out.drewN n1).h1 HB.out.size) ?_; rintro e w7 ⟨⟨p7, q7, rfl⟩, r1, r2, r3⟩; have R1 := Lib.hid r1; have R2 := Lib.hid r2; have R3 := Lib.hid r3; clear r1 r2 r3)))
      go_step3
      refine ⟨rfl, ⟨y, m, n, l, b ++ x.data.toList, v, _, _, _, _, _, _, _, _, _, _, _, _, _, _, _, _, _, _, _, _, _, _, _, _, _, _, _, _, _, _, _, _, _, _, _, _, _, _, _, _, _, _, _, _, _, _, _, _, _, _, _, _, _, _, _, _, _, _, _, _, _, _, rfl, Lib.hid ?_, Lib.hid ?_, Lib.hid ?_, Lib.hid ?_, Lib.hid ?_, Lib.hid ?_, Lib.hid ?_⟩, ?_⟩
      ·
       have h := parseL_succ m r n l b x y HX.out HY.out HR0.out
       rw [if_neg (by have := HX0.out; omega), if_pos HBL.out] at h
       rw [← h]
       exact HG.out
      · have h1 := HLE.out HR0.out; have h2 := HM.out; omega
      ·
       rw [List.length_append, list_size]
       have := HXY.out; have := HA.out; omega
      · exact HLL.out
      · have h1 := HLE.out HR0.out; have := HN.out; omega
      · exact (HH.out.drewN n1).kept R3.out R1.out
      · exact (pw_below_drewN HB.out n1).trans R2.out
      ·
       show y.size < r.size
       exact HLE.out HR0.out
     ·
      have e2 : decide ((0 : Int) < (n : Int)) = false := decide_eq_false (by omega)
      have HBL := Lib.hid (show ¬ (blankB (x.data.toList.getD 0 0) = true ∧ 0 < n) by intro h; exact hn0 h.2)
      have hnz : n = 0 := by omega
      clear hbl
      by_cases hk0 : 0 < k
      ·
       have e3 : decide ((0 : Int) < (k : Int)) = true := decide_eq_true (by omega)
       have hkx := named_less x (by rw [HK.out]; exact hk0)
       rw [HK.out] at hkx
       have e5 : (k : Int) < (x.size : Int) := by omega
       have hkle : k ≤ x.size := by omega
       have e6 : (x.size : Int) ≤ 1073741824 := by have := HXY.out; have := HA.out; have := HL.out; omega
       have HK0 := Lib.hid hk0
       have BW3 := Lib.hid (fun W (h : BB w.heap.size (w.heap.size + 1) [] W) (hB : w.heap.size ≤ W.heap.size) => bwriteK w.heap.size (w.heap.size + 1) [] (x.extract (k + 1) x.size) W h (by have := ext_le x (k + 1) x.size; have := HXY.out; have := HA.out; have := HL.out; simp only [List.length_nil]; omega) hB)
       have HKX := Lib.hid hkx
       clear hk0 hkx
       by_cases hm : n + 1 ≤ 1024
       ·
        have e4 : decide ((n : Int) + 1 ≤ 1024) = true := decide_eq_true (by omega)
        have HM4 := Lib.hid hm
        clear hm
        go_wp2_with (first | (go_at_call 38; refine (LN.out).mono ?_; rintro e w1 ⟨rfl, ⟨n1, rfl⟩⟩) | (go_at_call 39; refine (NM.out _).mono ?_; rintro e w2 ⟨rfl, rfl⟩) | (go_at_call 40; refine (IB.out _).mono ?_; rintro e w3 ⟨rfl, rfl⟩) | (go_at_call 34; refine Calls.mono (CL.out _ (HH.out.drewN _) HB.out.size) ?_; rintro e w4 ⟨rfl, h1, h2⟩; have H1 := Lib.hid h1; have H2 := Lib.hid h2; have c0 := blk_cell H1.out.h0 0; have d2 := blk_cell H1.out.h2 0; have f2 := fun j => blk_frozen H1.out.h2 j; clear h1 h2))
        obtain ⟨W5, hW5⟩ : ∃ W5, w4.setCell ⟨w.heap.size + 2, 0, none⟩ (.int .i64 1) = W5 := ⟨_, rfl⟩
        have H5 := Lib.hid (show Head w.heap.size w.heap.size (w.heap.size + 1) (w.heap.size + 2) (n + 1) (closeF n l b) [] v W5 by rw [← hW5]; exact head_many H1.out (n + 1) 1 (by omega))
        have HB5 := Lib.hid (show Below w.heap.size w W5 by rw [← hW5]; exact ((pw_below_drewN HB.out _).trans H2.out).setCell (p := ⟨w.heap.size + 2, 0, none⟩) (by simp) _)
        rw [hW5]
        have q0 := blk_cell H5.out.h0 0
        have q1 := fun o => blk_cell (blk_alloc (w := W5) H5.out.h0 o) 0
        have HD5 := Lib.hid (H5.out.below (below_drew (Below.refl _ _)))
        have HLC := Lib.hid (show ((closeF n l b).length + 1) * 32 ≤ 140737488355328 by rw [closeF_len]; have := HLL.out; omega)
        clear hW5
        clear hnz hn0
        go_region_law (refine Kd.R_append_step k43 (w0 := w) (W := W5.drew) w.heap.size ?hw (.tmp 49) (.tmp 54) 39 43 (.agg #[.string ⟨#[]⟩, .string ⟨#[]⟩]) 32 rfl Tryz.underlying39 info43 rfl (by decide) (by decide) v (closeF n l b) ⟨x.extract 0 k, ⟨#[]⟩⟩ _ (fun _ => True) (fun _ => False) rfl rfl (k43_mkM _ _ _ _) (fun _ hk => hk.elim) (fun _ _ => trivial) ?hO ?hB ?hbase HLC.out ?_; (case hw => rfl); (case hO => exact HD5.out.hv); (case hB => exact below_drew HB5.out); (case hbase => exact HB5.out.size); intro v1 w6 hR hb6 hg6 hat6; obtain ⟨ga, ca, rfl, _⟩ := Kd.R_form hR (by simp); have HR6 := Lib.hid hR; have HB6 := Lib.hid hb6; have HG6 := Lib.hid hg6; have p0 := blk_cell (blk_grown HD5.out.h0 hg6 (Kd.R_ne HD5.out.hv HD5.out.h0 (by decide))) 0; have pf := fun j => blk_frozen (blk_grown HD5.out.h0 hg6 (Kd.R_ne HD5.out.hv HD5.out.h0 (by decide))) j; clear hR hb6 hg6 hat6)
        all_goals
         have h7 := head_app HD5.out HR6.out HG6.out
         rw [List.length_append] at h7
         have H7 := Lib.hid h7
         have HB7 := Lib.hid (HB6.out.setCell (p := ⟨w.heap.size, 0, none⟩) (Nat.le_refl _) (.slice (some ⟨ga, 0, none⟩) ((closeF n l b).length + 1) ca))
         clear h7
         go_wp2_with (go_at_call 41; go_loud (refine Calls.mono (BW3.out (w6.setCell ⟨w.heap.size, 0, none⟩ (.slice (some ⟨ga, 0, none⟩) ((closeF n l b).length + 1) ca)) H7.out.h1 HB7.out.size) ?_; rintro e w7 ⟨⟨p7, q7, rfl⟩, r1, r2, r3⟩; have R1 := Lib.hid r1; have R2 := Lib.hid r2; have R3 := Lib.hid r3; clear r1 r2 r3))
         go_step3
         refine ⟨rfl, ⟨y, m, n + 1, nextF n l b x, (x.extract (k + 1) x.size).data.toList, .slice (some ⟨ga, 0, none⟩) ((closeF n l b).length + 1) ca, _, _, _, _, _, _, _, _, _, _, _, _, _, _, _, _, _, _, _, _, _, _, _, _, _, _, _, _, _, _, _, _, _, _, _, _, _, _, _, _, _, _, _, _, _, _, _, _, _, _, _, _, _, _, _, _, _, _, _, _, _, _, rfl, Lib.hid ?_, Lib.hid ?_, Lib.hid ?_, Lib.hid ?_, Lib.hid ?_, Lib.hid ?_, Lib.hid ?_⟩, ?_⟩
         ·
          have h := parseL_succ m r n l b x y HX.out HY.out HR0.out
          rw [if_neg (by have := HX0.out; omega), if_neg HBL.out, HK.out, if_pos HK0.out] at h
          rw [← h]
          exact HG.out
         · have h1 := HLE.out HR0.out; have h2 := HM.out; omega
         ·
          rw [list_size, ext_size2 x (k + 1) (by have := HKX.out; omega)]
          have := HXY.out; have := HA.out; omega
         · exact nextF_len _ _ _ _ HLL.out
         · have h1 := HLE.out HR0.out; have := HN.out; omega
         ·
          rw [show nextF n l b x = closeF n l b ++ [⟨x.extract 0 k, ⟨#[]⟩⟩] by unfold nextF; rw [if_pos HM4.out]; rw [HK.out]]
          exact H7.out.kept R3.out R1.out
         · exact HB7.out.trans R2.out
         ·
          show y.size < r.size
          exact HLE.out HR0.out
       · exact absurd (by omega) hm
      ·
       have hk1 : k = 0 := by omega
       have HK1 := Lib.hid hk1
       have e3 : decide ((0 : Int) < (k : Int)) = false := decide_eq_false (by omega)
       go_wp2_with (first | (go_at_call 38; refine (LN.out).mono ?_; rintro e w1 ⟨rfl, ⟨n1, rfl⟩⟩) | (go_at_call 39; refine (NM.out _).mono ?_; rintro e w2 ⟨rfl, rfl⟩) | (go_at_call 40; refine (IB.out _).mono ?_; rintro e w3 ⟨rfl, rfl⟩) | (go_at_call 34; refine Calls.mono (CL.out _ (HH.out.drewN _) HB.out.size) ?_; rintro e w4 ⟨rfl, h1, h2⟩; have H1 := Lib.hid h1; have H2 := Lib.hid h2; have c0 := blk_cell H1.out.h0 0; clear h1 h2))
       simp only [Exit.jump]
       go_ret2
       have HF := HG.out
       rw [parseL_succ _ _ _ _ _ x y HX.out HY.out HR0.out, if_neg (by have := HX0.out; omega), if_neg HBL.out, HK.out, if_neg (by have := HK1.out; omega)] at HF
       have hl2 := parseL_len s.size s 0 [] []
       rw [← HF] at hl2
       refine ⟨v, ?_, ?_, ?_⟩
       ·
        rw [parseF_def, ← HF]
        have hw : wrap64 ((s.size : Int) - (r.size : Int)) = ((s.size - r.size : Nat) : Int) := wrap_diff _ _ hl2 (by have := HL.out; omega)
        show Ending.returned (Value.tuple #[v, Value.int IntKind.i64 (wrap64 ((s.size : Int) - (r.size : Int)))]) = _
        rw [hw]
       ·
        rw [parseF_def, ← HF]
        exact H1.out.hv
       · exact (pw_below_drewN HB.out _).trans H2.out
structure Mf where
 find : List S43 → ByteArray → Option (ByteArray × Int)
 typ : ByteArray → Option (ByteArray × List S43)
 par : List S43 → ByteArray → Option (ByteArray × Int)
 orr : ByteArray → Int → ByteArray → Option ByteArray
 pcs : ByteArray → ByteArray → Option (List ByteArray)
structure MfOK (m : Mf) : Prop where
 find : ∀ (A : Option Addr) (c : Nat) (l : List S43) (a : ByteArray) (r : ByteArray × Int) (w : World), Kd.C k43 w A l.length l → l.length ≤ c → m.find l a = some r → Calls Tryz.prog 19 #[.slice A l.length c, .string a] w fun e w' => e = .returned (.tuple #[.string r.1, .int .i64 r.2]) ∧ Below w.heap.size w w'
 typ : ∀ (a : ByteArray) (r : ByteArray × List S43) (w : World), Tabs w → m.typ a = some r → Calls Tryz.prog 85 #[.string a] w fun e w' => ∃ v, e = .returned (.tuple #[.string r.1, v]) ∧ Kd.R k43 43 w' w.heap.size (fun _ => True) v r.2 ∧ Below w.heap.size w w'
 par : ∀ (A : Option Addr) (c : Nat) (l : List S43) (a : ByteArray) (r : ByteArray × Int) (w : World), Kd.C k43 w A l.length l → l.length ≤ c → m.par l a = some r → Calls Tryz.prog 86 #[.slice A l.length c, .string a] w fun e w' => e = .returned (.tuple #[.string r.1, .int .i64 r.2]) ∧ Below w.heap.size w w'
 orr : ∀ (a : ByteArray) (b : Int) (c r : ByteArray) (w : World), m.orr a b c = some r → Calls Tryz.prog 87 #[.string a, .int .i64 b, .string c] w fun e w' => e = .returned (.string r) ∧ Below w.heap.size w w'
 pcs : ∀ (a b : ByteArray) (r : List ByteArray) (w : World), Tabs w → m.pcs a b = some r → Calls Tryz.prog 88 #[.string a, .string b] w fun e w' => ∃ v, e = .returned v ∧ Kd.R Kd.string 9 w' w.heap.size (fun _ => True) v r ∧ Below w.heap.size w w'
def sCT : ByteArray := ⟨#[67, 111, 110, 116, 101, 110, 116, 45, 84, 121, 112, 101]⟩
def sCharset : ByteArray := ⟨#[99, 104, 97, 114, 115, 101, 116]⟩
def sAscii : ByteArray := ⟨#[117, 115, 45, 97, 115, 99, 105, 105]⟩
def sCTE : ByteArray := ⟨#[67, 111, 110, 116, 101, 110, 116, 45, 84, 114, 97, 110, 115, 102, 101, 114, 45, 69, 110, 99, 111, 100, 105, 110, 103]⟩
def sBit : ByteArray := ⟨#[55, 98, 105, 116]⟩
def sBound : ByteArray := ⟨#[98, 111, 117, 110, 100, 97, 114, 121]⟩
structure Node where
 part : S53
 set : List S43
 body : ByteArray
def openF (m : Mf) (s : ByteArray) (level : Int) : Option Node :=
 (m.find (parseF s).1 sCT).bind fun ct => (m.typ ct.1).bind fun t => (m.par t.2 sCharset).bind fun cs => (m.orr cs.1 cs.2 sAscii).bind fun ch =>
  (m.find (parseF s).1 sCTE).bind fun ce => (m.orr ce.1 ce.2 sBit).bind fun co => some ⟨⟨level, t.1, ch, co, ⟨#[]⟩⟩, t.2, s.extract (s.size - (parseF s).2.size) s.size⟩
structure NodeAt (B g : Nat) (x : Node) (W : World) : Prop where
 blk : ∃ A c, W.heap[g]? = some (.cells #[.int .i64 x.part.f0, .string x.part.f1, .string x.part.f2, .string x.part.f3, .string x.part.f4, .slice A x.set.length c, .string x.body] 102 (0, 0)) ∧ x.set.length ≤ c ∧ Kd.R k43 43 W B (fun _ => True) (.slice A x.set.length c) x.set
 low : B ≤ g
theorem R_C {α : Type} {d : Kd α} {e : Nat} {w : World} {base : Nat} {ok : Nat → Prop} {A : Option Addr} {n c : Nat} {xs : List α} (h : d.R e w base ok (.slice A n c) xs) : d.C w A xs.length xs ∧ xs.length ≤ c ∧ n = xs.length := by
 obtain ⟨A', c', e, h1, h2⟩ := Kd.R_reads h
 injection e with e1 e2 e3
 subst e1 e2 e3
 exact ⟨h2, h1, rfl⟩
structure NB (w : World) (g : Nat) (v3 : Value) (tl : List S43) (v : Value) (l : List S43) (cells : Array Value) (W : World) : Prop where
 blk : W.heap[g]? = some (.cells cells 102 (0, 0))
 low : w.heap.size ≤ g
 b : Below w.heap.size w W
 r3 : Kd.R k43 43 W w.heap.size (fun _ => True) v3 tl
 r : Kd.R k43 43 W w.heap.size (fun _ => True) v l
theorem R43_set {W : World} {B g : Nat} {v : Value} {l : List S43} {cells : Array Value} (h : Kd.R k43 43 W B (fun _ => True) v l) (hb : W.heap[g]? = some (.cells cells 102 (0, 0))) (j : Nat) (u : Value) : Kd.R k43 43 (W.setCell ⟨g, j, none⟩ u) B (fun _ => True) v l := by
 refine Kd.R_mono (Kd.R_set h hb ?_ j u) (fun _ _ => trivial)
 intro q hq
 rcases List.mem_cons.1 hq with h | h
 · subst h; decide
 · cases h
theorem NB.set {w : World} {g : Nat} {v3 : Value} {tl : List S43} {v : Value} {l : List S43} {cells : Array Value} {W : World} (h : NB w g v3 tl v l cells W) (j : Nat) (u : Value) : NB w g v3 tl v l (cells.setIfInBounds j u) (W.setCell ⟨g, j, none⟩ u) :=
 ⟨blk_set h.blk j u, h.low, h.b.setCell (p := ⟨g, j, none⟩) h.low u, R43_set h.r3 h.blk j u, R43_set h.r h.blk j u⟩
theorem NB.below {w : World} {g : Nat} {v3 : Value} {tl : List S43} {v : Value} {l : List S43} {cells : Array Value} {W W' : World} (h : NB w g v3 tl v l cells W) (hb : Below W.heap.size W W') : NB w g v3 tl v l cells W' :=
 ⟨blk_below h.blk hb, h.low, h.b.trans (hb.mono h.b.size), Kd.R_below h.r3 hb, Kd.R_below h.r hb⟩
theorem openF_parts {m : Mf} {s : ByteArray} {level : Int} {x : Node} (h : openF m s level = some x) : ∃ (ct : ByteArray) (cx : Int) (t : ByteArray) (tl : List S43) (cs : ByteArray) (cy : Int) (ch ce : ByteArray) (cz : Int) (co : ByteArray),
  m.find (parseF s).1 sCT = some (ct, cx) ∧ m.typ ct = some (t, tl) ∧ m.par tl sCharset = some (cs, cy) ∧ m.orr cs cy sAscii = some ch ∧ m.find (parseF s).1 sCTE = some (ce, cz) ∧ m.orr ce cz sBit = some co ∧ x = ⟨⟨level, t, ch, co, ⟨#[]⟩⟩, tl, s.extract (s.size - (parseF s).2.size) s.size⟩ := by
 unfold openF at h
 obtain ⟨ct, h1, h⟩ := Option.bind_eq_some_iff.1 h
 obtain ⟨t, h2, h⟩ := Option.bind_eq_some_iff.1 h
 obtain ⟨cs, h3, h⟩ := Option.bind_eq_some_iff.1 h
 obtain ⟨ch, h4, h⟩ := Option.bind_eq_some_iff.1 h
 obtain ⟨ce, h5, h⟩ := Option.bind_eq_some_iff.1 h
 obtain ⟨co, h6, h⟩ := Option.bind_eq_some_iff.1 h
 injection h with h
 exact ⟨_, _, _, _, _, _, _, _, _, _, h1, h2, h3, h4, h5, h6, h.symm⟩
theorem open_any (m : Mf) (hm : MfOK m) (s : ByteArray) (level : Int) (x : Node) (w : World) (hT : Tabs w) (hs : s.size ≤ 1073741824) (h : openF m s level = some x) :
  Calls Tryz.prog 50 #[.string s, .int .i64 level] w fun e w' => ∃ g, e = .returned (.pointer (some ⟨g, 0, none⟩)) ∧ NodeAt w.heap.size g x w' ∧ Below w.heap.size w w' := by
 obtain ⟨ct, cx, t, tl, cs, cy, ch, ce, cz, co, h1, h2, h3, h4, h5, h6, rfl⟩ := openF_parts h
 clear h
 have HP := Lib.hid (parse_any s w hT hs)
 have hat : s.size - (parseF s).2.size ≤ s.size := by omega
 obtain ⟨at', hat'⟩ : ∃ k, s.size - (parseF s).2.size = k := ⟨_, rfl⟩
 rw [hat'] at HP hat ⊢
 obtain ⟨l, hl⟩ : ∃ l, (parseF s).1 = l := ⟨_, rfl⟩
 rw [hl] at HP h1 h5
 clear hl hat'
 have hs64 : (s.size : Int) ≤ 1073741824 := by omega
 have M := Lib.hid hm
 have T := Lib.hid hT
 have H1 := Lib.hid h1
 have H2 := Lib.hid h2
 have H3 := Lib.hid h3
 have H4 := Lib.hid h4
 have H5 := Lib.hid h5
 have H6 := Lib.hid h6
 clear hm hT h1 h2 h3 h4 h5 h6 hs
 go_enter Tryz.func50, Tryz.ntmps50
 go_wp2_with fail
 refine Calls.mono HP.out ?_
 rintro e w1 ⟨v, rfl, hv, hb1⟩
 obtain ⟨A, c, rfl, hc, hC⟩ := Kd.R_reads hv
 have V1 := Lib.hid hv
 have B1 := Lib.hid hb1
 have C1 := Lib.hid (And.intro hC hc)
 clear hv hb1 hC hc
 go_wp2_with fail
 refine Calls.mono (M.out.find A c l sCT (ct, cx) w1 C1.out.1 C1.out.2 H1.out) ?_
 rintro e w2 ⟨rfl, hb2⟩
 have B2 := Lib.hid (B1.out.trans (hb2.mono B1.out.size))
 have V2 := Lib.hid (Kd.R_below V1.out hb2)
 clear hb2 V1 B1 C1
 go_wp2_with fail
 refine Calls.mono (M.out.typ ct (t, tl) _ ?hT3 H2.out) ?_
 case hT3 => exact tabs_below T.out (B2.out.alloc B2.out.size _)
 rintro e w3 ⟨v3, rfl, hv3, hb3⟩
 obtain ⟨A3, c3, rfl, hc3, hC3⟩ := Kd.R_reads hv3
 have n3 : w3.heap[w2.heap.size]? = some (.cells #[.int .i64 level, .string ⟨#[]⟩, .string ⟨#[]⟩, .string ⟨#[]⟩, .string ⟨#[]⟩, .slice none 0 0, .string (s.extract at' s.size)] 102 (0, 0)) := blk_below (heap_alloc_new w2 _) hb3
 have hbw : Below w.heap.size w w3 := (B2.out.alloc B2.out.size _).trans (hb3.mono (by simp; have := B2.out.size; omega))
 have hgl : w.heap.size ≤ w2.heap.size := B2.out.size
 have hv3' : Kd.R k43 43 w3 w.heap.size (fun _ => True) (.slice A3 tl.length c3) tl := Kd.R_lower hv3 (by simp; have := B2.out.size; omega)
 have hl3 : Kd.R k43 43 w3 w.heap.size (fun _ => True) (.slice A l.length c) l := Kd.R_below V2.out ((below_alloc (Below.refl _ _) _).trans (hb3.mono (by simp)))
 have GL := Lib.hid hgl
 obtain ⟨g, hg⟩ : ∃ g, w2.heap.size = g := ⟨_, rfl⟩
 rw [hg] at n3 GL
 have H := Lib.hid (show NB w g (.slice A3 tl.length c3) tl (.slice A l.length c) l _ w3 from ⟨n3, GL.out, hbw, hv3', hl3⟩)
 clear hv3 hC3 hb3 hbw hgl hv3' hl3 V2 B2 n3
 rw [hg]
 clear hg GL
 have d3 := fun j => blk_cell H.out.blk j
 have f3 := fun j => blk_frozen H.out.blk j
 go_wp2_with fail
 have X4 := Lib.hid ((H.out.set 1 (.string t)).set 5 (.slice A3 tl.length c3))
 clear d3 f3 H
 refine Calls.mono (M.out.par A3 c3 tl sCharset (cs, cy) _ (R_C X4.out.r3).1 (R_C X4.out.r3).2.1 H3.out) ?_
 rintro e w4 ⟨rfl, hb4⟩
 have Y4 := Lib.hid (show NB w g (.slice A3 tl.length c3) tl (.slice A l.length c) l #[.int .i64 level, .string t, .string ⟨#[]⟩, .string ⟨#[]⟩, .string ⟨#[]⟩, .slice A3 tl.length c3, .string (s.extract at' s.size)] w4 from X4.out.below hb4)
 clear hb4 X4
 go_wp2_with fail
 refine Calls.mono (M.out.orr cs cy sAscii ch w4 H4.out) ?_
 rintro e w5 ⟨rfl, hb5⟩
 have Y5 := Lib.hid (Y4.out.below hb5)
 clear hb5 Y4
 have d5 := fun j => blk_cell Y5.out.blk j
 have f5 := fun j => blk_frozen Y5.out.blk j
 go_wp2_with fail
 have X6 := Lib.hid (Y5.out.set 2 (.string ch))
 clear d5 f5 Y5
 refine Calls.mono (M.out.find A c l sCTE (ce, cz) _ (R_C X6.out.r).1 (R_C X6.out.r).2.1 H5.out) ?_
 rintro e w6 ⟨rfl, hb6⟩
 have Y6 := Lib.hid (show NB w g (.slice A3 tl.length c3) tl (.slice A l.length c) l #[.int .i64 level, .string t, .string ch, .string ⟨#[]⟩, .string ⟨#[]⟩, .slice A3 tl.length c3, .string (s.extract at' s.size)] w6 from X6.out.below hb6)
 clear hb6 X6
 go_wp2_with fail
 refine Calls.mono (M.out.orr ce cz sBit co w6 H6.out) ?_
 rintro e w7 ⟨rfl, hb7⟩
 have Y7 := Lib.hid (Y6.out.below hb7)
 clear hb7 Y6
 have d7 := fun j => blk_cell Y7.out.blk j
 have f7 := fun j => blk_frozen Y7.out.blk j
 go_wp2_with fail
 have X8 := Lib.hid (Y7.out.set 3 (.string co))
 clear d7 f7 Y7
 go_ret
 exact ⟨g, rfl, ⟨⟨A3, c3, X8.out.blk, (R_C X8.out.r3).2.1, X8.out.r3⟩, X8.out.low⟩, X8.out.b⟩
def sMulti : ByteArray := ⟨#[109, 117, 108, 116, 105, 112, 97, 114, 116, 47]⟩
def msgB (t : ByteArray) : Bool := t.toList == [109, 101, 115, 115, 97, 103, 101, 47, 114, 102, 99, 56, 50, 50]
def kidsF (m : Mf) (x : Node) : Option (List ByteArray) :=
 if x.part.f0 = 8 then some []
 else if msgB x.part.f1 = true then some [x.body]
 else if Lib.hasPrefix x.part.f1.data.toList sMulti.data.toList = true then (m.par x.set sBound).bind fun b => if b.2 = 0 ∧ b.1.toList.isEmpty = false then m.pcs x.body b.1 else some []
 else some []
theorem one_string (w : World) (b : ByteArray) : Kd.R Kd.string 9 (w.alloc (.cells #[.string b] 9)) w.heap.size (fun _ => True) (.slice (some ⟨w.heap.size, 0, none⟩) 1 1) [b] :=
 Kd.R_of_own (xs := [b]) (World.ownsRow_lit w #[.string b] 1 (Nat.le_refl _) (by decide) rfl) (fun _ _ => trivial)
theorem kids_any (m : Mf) (hm : MfOK m) (B g : Nat) (x : Node) (r : List ByteArray) (w : World) (hT : Tabs w) (hx : NodeAt B g x w) (h : kidsF m x = some r) :
  Calls Tryz.prog 51 #[.pointer (some ⟨g, 0, none⟩)] w fun e w' => ∃ v, e = .returned v ∧ Kd.R Kd.string 9 w' w.heap.size (fun _ => True) v r ∧ Below w.heap.size w w' := by
 obtain ⟨A, c, hb, hc, hR⟩ := hx.blk
 obtain ⟨⟨lv, ty, ch, co, tx⟩, set, body⟩ := x
 unfold kidsF at h
 simp only at h hb hc hR
 have d := fun j => blk_cell hb j
 have df := fun j => blk_frozen hb j
 by_cases h8 : lv = 8
 ·
  subst h8
  rw [if_pos rfl] at h
  injection h with h
  subst h
  clear hb hR hx hT hm
  go_enter Tryz.func51, Tryz.ntmps51
  go_wp2_with fail
  go_ret
  exact ⟨_, rfl, Kd.R_nil _ _ _ _ _, Below.refl _ _⟩
 rw [if_neg h8] at h
 have e8 : (lv == 8) = false := by simpa using h8
 unfold msgB at h
 cases e9 : (ty.toList == [109, 101, 115, 115, 97, 103, 101, 47, 114, 102, 99, 56, 50, 50]) with
 | true =>
  rw [e9, if_pos rfl] at h
  injection h with h
  subst h
  clear hb hR hx hT hm
  go_enter Tryz.func51, Tryz.ntmps51
  go_wp2_with fail
  go_ret
  exact ⟨_, rfl, one_string w body, below_alloc (Below.refl _ _) _⟩
 | false =>
  rw [e9, if_neg (by simp)] at h
  have HPr := Lib.hid (Tryz.strings_HasPrefix ty sMulti w)
  obtain ⟨p, hp⟩ : ∃ p, Lib.hasPrefix ty.data.toList sMulti.data.toList = p := ⟨_, rfl⟩
  rw [hp] at h HPr
  clear hp
  have HX := Lib.hid hx
  have HT := Lib.hid hT
  have M := Lib.hid hm
  have HC := Lib.hid (And.intro (R_C hR).1 hc)
  have HBK := Lib.hid hb
  clear hb hR hx hT hm hc
  cases p with
  | false =>
   rw [if_neg (by simp)] at h
   injection h with h
   subst h
   go_enter Tryz.func51, Tryz.ntmps51
   go_wp2_with fail
   refine Calls.mono HPr.out ?_
   rintro e w1 ⟨rfl, rfl⟩
   go_wp2_with fail
   go_ret
   exact ⟨_, rfl, Kd.R_nil _ _ _ _ _, Below.refl _ _⟩
  | true =>
   rw [if_pos rfl] at h
   obtain ⟨⟨b, by_⟩, hpar, h⟩ := Option.bind_eq_some_iff.1 h
   simp only at h
   have HQ := Lib.hid hpar
   clear hpar
   by_cases hb0 : by_ = 0
   ·
    subst hb0
    cases eb : b.toList.isEmpty with
    | true =>
     rw [if_neg (by rw [eb]; simp)] at h
     injection h with h
     subst h
     go_enter Tryz.func51, Tryz.ntmps51
     go_wp2_with fail
     refine Calls.mono HPr.out ?_
     rintro e w1 ⟨rfl, rfl⟩
     go_wp2_with fail
     refine Calls.mono (M.out.par A c set sBound (b, 0) _ HC.out.1 HC.out.2 HQ.out) ?_
     rintro e w2 ⟨rfl, hb2⟩
     have HB2 := Lib.hid hb2
     clear hb2
     go_wp2_with fail
     go_ret
     exact ⟨_, rfl, Kd.R_nil _ _ _ _ _, HB2.out⟩
    | false =>
     rw [if_pos ⟨rfl, eb⟩] at h
     have HPC := Lib.hid h
     clear h
     go_enter Tryz.func51, Tryz.ntmps51
     go_wp2_with fail
     refine Calls.mono HPr.out ?_
     rintro e w1 ⟨rfl, rfl⟩
     go_wp2_with fail
     refine Calls.mono (M.out.par A c set sBound (b, 0) _ HC.out.1 HC.out.2 HQ.out) ?_
     rintro e w2 ⟨rfl, hb2⟩
     have d2 := fun j => blk_cell (blk_below HBK.out hb2) j
     have HB2 := Lib.hid hb2
     clear hb2
     go_wp2_with fail
     refine Calls.mono (M.out.pcs body b r w2 (tabs_below HT.out HB2.out) HPC.out) ?_
     rintro e w3 ⟨v3, rfl, hv3, hb3⟩
     have V3 := Lib.hid (Kd.R_lower hv3 HB2.out.size)
     have HB3 := Lib.hid (HB2.out.trans (hb3.mono HB2.out.size))
     clear hv3 hb3
     go_wp2_with fail
     go_ret
     exact ⟨_, rfl, V3.out, HB3.out⟩
   ·
    rw [if_neg (by rintro ⟨h, _⟩; exact hb0 h)] at h
    injection h with h
    subst h
    have eb0 : (by_ == 0) = false := by simpa using hb0
    go_enter Tryz.func51, Tryz.ntmps51
    go_wp2_with fail
    refine Calls.mono HPr.out ?_
    rintro e w1 ⟨rfl, rfl⟩
    go_wp2_with fail
    refine Calls.mono (M.out.par A c set sBound (b, by_) _ HC.out.1 HC.out.2 HQ.out) ?_
    rintro e w2 ⟨rfl, hb2⟩
    have HB2 := Lib.hid hb2
    clear hb2
    go_wp2_with fail
    go_ret
    exact ⟨_, rfl, Kd.R_nil _ _ _ _ _, HB2.out⟩
def k96 : Kd (ByteArray × Int) := Kd.pair Kd.string (Kd.int .i64)
theorem k96_openM {w : World} {base : Nat} {ok : Nat → Prop} {x : ByteArray × Int} {cs : List Value} (h : k96.M w base ok x cs) : cs = [.string x.1, .int .i64 x.2] := by
 obtain ⟨_, _, rfl, rfl, rfl⟩ := h
 exact rfl
theorem k96_mkM (w : World) (base : Nat) (ok : Nat → Prop) (x : ByteArray × Int) : k96.M w base ok x [.string x.1, .int .i64 x.2] := ⟨[.string x.1], [.int .i64 x.2], rfl, rfl, rfl⟩
def z96 : ByteArray × Int := (⟨#[]⟩, 0)
theorem info96 : (Tryz.prog.info? 96).map (fun i => (i.zero, i.size, i.bytes)) = some (some (.agg #[.string ⟨#[]⟩, .int .i64 0]), 2, 24) := by kernel_rfl
theorem info53 : (Tryz.prog.info? 53).map (fun i => (i.zero, i.size, i.bytes)) = some (some (.agg #[.int .i64 0, .string ⟨#[]⟩, .string ⟨#[]⟩, .string ⟨#[]⟩, .string ⟨#[]⟩]), 5, 72) := by kernel_rfl
def partOf (n : Node) (ks : List ByteArray) : S53 := if ks.length = 0 then ⟨n.part.f0, n.part.f1, n.part.f2, n.part.f3, n.body⟩ else n.part
def partsL (m : Mf) : Nat → List (ByteArray × Int) → List S53 → Option (List S53)
 | 0, st, out => if st.length = 0 ∨ out.length = 256 then some out else none
 | k + 1, st, out => if st.length = 0 ∨ out.length = 256 then some out else
  if (st.getD (st.length - 1) z96).1.size ≤ 1073741824 then
   (openF m (st.getD (st.length - 1) z96).1 (st.getD (st.length - 1) z96).2).bind fun n => (kidsF m n).bind fun ks =>
    if ks.length ≤ 4294967296 then partsL m k (st.take (st.length - 1) ++ ks.reverse.map (fun b => (b, (st.getD (st.length - 1) z96).2 + 1))) (out ++ [partOf n ks]) else none
  else none
def partsF (m : Mf) (s : ByteArray) : Option (List S53) := partsL m 257 [(s, 0)] []
theorem partsL_done {m : Mf} {k : Nat} {st : List (ByteArray × Int)} {out r : List S53} (h : partsL m k st out = some r) (hd : st.length = 0 ∨ out.length = 256) : r = out := by
 cases k with
 | zero => unfold partsL at h; rw [if_pos hd] at h; injection h with h; exact h.symm
 | succ k => unfold partsL at h; rw [if_pos hd] at h; injection h with h; exact h.symm
theorem partsL_step {m : Mf} {k : Nat} {st : List (ByteArray × Int)} {b : ByteArray} {lv : Int} {out r : List S53} (h : partsL m k (st ++ [(b, lv)]) out = some r) (h2 : out.length ≠ 256) :
  ∃ j n ks, k = j + 1 ∧ b.size ≤ 1073741824 ∧ openF m b lv = some n ∧ kidsF m n = some ks ∧ ks.length ≤ 4294967296 ∧ partsL m j (st ++ ks.reverse.map (fun b => (b, lv + 1))) (out ++ [partOf n ks]) = some r := by
 have hg : (st ++ [(b, lv)]).getD ((st ++ [(b, lv)]).length - 1) z96 = (b, lv) := by simp
 have ht : (st ++ [(b, lv)]).take ((st ++ [(b, lv)]).length - 1) = st := by simp
 have hn : ¬ ((st ++ [(b, lv)]).length = 0 ∨ out.length = 256) := by simp [h2]
 cases k with
 | zero => unfold partsL at h; rw [if_neg hn] at h; cases h
 | succ k =>
  unfold partsL at h
  rw [if_neg hn, hg, ht] at h
  by_cases hb : b.size ≤ 1073741824
  ·
   rw [if_pos hb] at h
   obtain ⟨n, hn1, h⟩ := Option.bind_eq_some_iff.1 h
   obtain ⟨ks, hk1, h⟩ := Option.bind_eq_some_iff.1 h
   by_cases hk : ks.length ≤ 4294967296
   ·
    rw [if_pos hk] at h
    exact ⟨k, n, ks, rfl, hb, hn1, hk1, hk, h⟩
   · rw [if_neg hk] at h; cases h
  · rw [if_neg hb] at h; cases h
theorem openF_level {m : Mf} {s : ByteArray} {lv : Int} {n : Node} (h : openF m s lv = some n) : n.part.f0 = lv := by
 obtain ⟨_, _, _, _, _, _, _, _, _, _, _, _, _, _, _, _, rfl⟩ := openF_parts h
 rfl
theorem kidsF_level {m : Mf} {n : Node} {ks : List ByteArray} (h : kidsF m n = some ks) (hk : 0 < ks.length) : n.part.f0 ≠ 8 := by
 intro e
 unfold kidsF at h
 rw [if_pos e] at h
 injection h with h
 subst h
 simp at hk
theorem snoc_of {α : Type} (l : List α) (h : l.length ≠ 0) : ∃ a x, l = a ++ [x] := by
 rcases List.eq_nil_or_concat l with e | ⟨a, x, e⟩
 · subst e; simp at h
 · exact ⟨a, x, by rw [e, List.concat_eq_append]⟩
theorem one_wait (w : World) (s : ByteArray) : Kd.R k96 96 (w.alloc (.cells #[.string s, .int .i64 0] 96)) w.heap.size (fun _ => True) (.slice (some ⟨w.heap.size, 0, none⟩) 1 1) [(s, 0)] := by
 refine ⟨fun _ _ => trivial, [.string s, .int .i64 0], World.ownsRow_lit w #[.string s, .int .i64 0] 1 (Nat.le_refl _) (by decide) rfl, rfl, ?_⟩
 intro j p hj
 match j with
 | 0 =>
  have : p = (s, 0) := by simpa using hj.symm
  subst this
  exact k96_mkM _ _ _ _
 | j + 1 => simp at hj
def lenS : Value → Nat
 | .slice _ n _ => n
 | _ => 0
theorem S96_over {ok : Nat → Prop} {W w1 : World} {B : Nat} {ov sv : Value} {st : List (ByteArray × Int)} {out : List S53} (hs : Kd.R k96 96 W B ok sv st) (ho : Kd.R k53 53 W B (fun _ => True) ov out) (hg : W.grownBy w1 ov.ownBlock) : Kd.R k96 96 w1 B ok sv st := by
 refine Kd.R_over hs ho ?_ hg
 intro q hq
 rcases List.mem_cons.1 hq with h | h
 · subst h; decide
 · cases h
theorem S53_over {ok : Nat → Prop} {W w1 : World} {B : Nat} {ov sv : Value} {st : List (ByteArray × Int)} {out : List S53} (hs : Kd.R k96 96 W B ok sv st) (ho : Kd.R k53 53 W B (fun _ => True) ov out) (hg : W.grownBy w1 sv.ownBlock) : Kd.R k53 53 w1 B (fun _ => True) ov out := by
 refine Kd.R_over ho hs ?_ hg
 intro q hq
 rcases List.mem_cons.1 hq with h | h
 · subst h; decide
 · cases h
theorem S9_over {ok : Nat → Prop} {W w1 : World} {B B' : Nat} {kv sv : Value} {st : List (ByteArray × Int)} {ks : List ByteArray} (hs : Kd.R k96 96 W B ok sv st) (ho : Kd.R Kd.string 9 W B' (fun _ => True) kv ks) (hg : W.grownBy w1 sv.ownBlock) : Kd.R Kd.string 9 w1 B' (fun _ => True) kv ks := by
 refine Kd.R_over ho hs ?_ hg
 intro q hq
 rcases List.mem_cons.1 hq with h | h
 · subst h; decide
 · cases h
theorem wrap_pred (n : Nat) (h : n ≤ 4294967296) : wrap64 ((n : Int) - 1) = (n : Int) - 1 := by
 unfold wrap64
 omega
theorem lv7 {lv : Int} (h : 0 ≤ lv ∧ lv ≤ 8) (h1 : lv ≠ 8) : lv ≤ 7 := by omega
theorem lv8 {lv : Int} (h : 0 ≤ lv ∧ lv ≤ 8) (h1 : lv ≤ 7) : 0 ≤ lv + 1 ∧ lv + 1 ≤ 8 := by omega
theorem S9_over53 {W w1 : World} {B B' : Nat} {kv ov : Value} {out : List S53} {ks : List ByteArray} (hs : Kd.R k53 53 W B (fun _ => True) ov out) (ho : Kd.R Kd.string 9 W B' (fun _ => True) kv ks) (hg : W.grownBy w1 ov.ownBlock) : Kd.R Kd.string 9 w1 B' (fun _ => True) kv ks := by
 refine Kd.R_over ho hs ?_ hg
 intro q hq
 rcases List.mem_cons.1 hq with h | h
 · subst h; decide
 · cases h
theorem S96_set {ok : Nat → Prop} {W : World} {B g : Nat} {sv : Value} {st : List (ByteArray × Int)} {cells : Array Value} (h : Kd.R k96 96 W B ok sv st) (hb : W.heap[g]? = some (.cells cells 102 (0, 0))) (j : Nat) (u : Value) : Kd.R k96 96 (W.setCell ⟨g, j, none⟩ u) B ok sv st := by
 refine Kd.R_set h hb ?_ j u
 intro q hq
 rcases List.mem_cons.1 hq with h | h
 · subst h; decide
 · cases h
theorem S53_set {W : World} {B g : Nat} {ov : Value} {out : List S53} {cells : Array Value} (h : Kd.R k53 53 W B (fun _ => True) ov out) (hb : W.heap[g]? = some (.cells cells 102 (0, 0))) (j : Nat) (u : Value) : Kd.R k53 53 (W.setCell ⟨g, j, none⟩ u) B (fun _ => True) ov out := by
 refine Kd.R_mono (Kd.R_set h hb ?_ j u) (fun _ _ => trivial)
 intro q hq
 rcases List.mem_cons.1 hq with h | h
 · subst h; decide
 · cases h
theorem S9_set {W : World} {B g : Nat} {kv : Value} {ks : List ByteArray} {cells : Array Value} (h : Kd.R Kd.string 9 W B (fun _ => True) kv ks) (hb : W.heap[g]? = some (.cells cells 102 (0, 0))) (j : Nat) (u : Value) : Kd.R Kd.string 9 (W.setCell ⟨g, j, none⟩ u) B (fun _ => True) kv ks := by
 refine Kd.R_mono (Kd.R_set h hb ?_ j u) (fun _ _ => trivial)
 intro q hq
 rcases List.mem_cons.1 hq with h | h
 · subst h; decide
 · cases h
def leftM (a' : Act) : Nat := 256 - lenS (a'.tmps.getD 3 undef)
def PartsJ (m : Mf) (s : ByteArray) (res : List S53) (w : World) (a' : Act) (w' : World) : Prop :=
 ∃ (k : Nat) (st : List (ByteArray × Int)) (out : List S53) (ov sv : Value) (u1 u5 u6 u7 u8 u9 u10 u11 u12 u13 u14 u15 u16 u17 u18 u19 u20 u21 u22 u23 u24 u25 u26 u27 u28 u29 u30 u31 u32 u33 u34 u35 u36 u37 u38 u39 u40 u41 u42 u43 u44 u45 u46 u47 u48 u49 u50 u51 u52 u53 u54 u55 u56 u57 u58 u59 u60 u61 u62 u63 u64 u65 u66 u67 u68 u69 u70 u71 u72 u73 u74 : Value), a' = { tmps := #[.string s, u1, .slice none 0 0, ov, sv, u5, u6, u7, u8, u9, u10, u11, u12, u13, u14, u15, u16, u17, u18, u19, u20, u21, u22, u23, u24, u25, u26, u27, u28, u29, u30, u31, u32, u33, u34, u35, u36, u37, u38, u39, u40, u41, u42, u43, u44, u45, u46, u47, u48, u49, u50, u51, u52, u53, u54, u55, u56, u57, u58, u59, u60, u61, u62, u63, u64, u65, u66, u67, u68, u69, u70, u71, u72, u73, u74], defers := [] } ∧
  Hid (partsL m k st out = some res) ∧ Hid (out.length ≤ 256) ∧ Hid (st.length ≤ out.length * 4294967296 + 1) ∧ Hid (∀ p ∈ st, 0 ≤ p.2 ∧ p.2 ≤ 8) ∧ Hid (Kd.R k96 96 w' w.heap.size (fun _ => True) sv st) ∧ Hid (Kd.R k53 53 w' w.heap.size (fun _ => True) ov out) ∧ Hid (Below w.heap.size w w')
theorem parts_core (m : Mf) (hm : MfOK m) (s : ByteArray) (res : List S53) (w : World) (hT : Tabs w) (h : partsF m s = some res) :
  Calls Tryz.prog 21 #[.string s] w fun e w' => ∃ v, e = .returned v ∧ Kd.R k53 53 w' w.heap.size (fun _ => True) v res ∧ Below w.heap.size w w' := by
 have HTT := Lib.hid hT
 have M := Lib.hid hm
 have H0 := Lib.hid h
 clear hT hm h
 go_enter Tryz.func21, Tryz.ntmps21
 go_wp2
 refine scope_label 0 (PartsJ m s res w) (fun a' _ => leftM a') rfl ?pass ?first
 case first =>
  intro hp
  have HP := Lib.hid hp
  clear hp
  go_wp2
  rename_i hK
  refine wp_label (hK _ _ (HP.out _ _ ?_))
  refine ⟨257, [(s, 0)], [], .slice none 0 0, .slice (some ⟨w.heap.size, 0, none⟩) 1 1, _, _, _, _, _, _, _, _, _, _, _, _, _, _, _, _, _, _, _, _, _, _, _, _, _, _, _, _, _, _, _, _, _, _, _, _, _, _, _, _, _, _, _, _, _, _, _, _, _, _, _, _, _, _, _, _, _, _, _, _, _, _, _, _, _, _, _, _, _, _, _, rfl, Lib.hid H0.out, Lib.hid (by simp), Lib.hid (by simp), Lib.hid ?_, Lib.hid ?_, Lib.hid (Kd.R_nil _ _ _ _ _), Lib.hid (below_alloc (Below.refl _ _) _)⟩
  ·
   intro p hp
   simp at hp
   subst hp
   exact ⟨Int.le_refl 0, by show (0 : Int) ≤ 8; decide⟩
  · exact one_wait w s
 case pass =>
  rintro a' wq ⟨k, st, out, ov, sv, u1, u5, u6, u7, u8, u9, u10, u11, u12, u13, u14, u15, u16, u17, u18, u19, u20, u21, u22, u23, u24, u25, u26, u27, u28, u29, u30, u31, u32, u33, u34, u35, u36, u37, u38, u39, u40, u41, u42, u43, u44, u45, u46, u47, u48, u49, u50, u51, u52, u53, u54, u55, u56, u57, u58, u59, u60, u61, u62, u63, u64, u65, u66, u67, u68, u69, u70, u71, u72, u73, u74, rfl, HG, HO, HSL, HLV, HS, HOV, HB⟩
  obtain ⟨Ao, co_, rfl, hco, _⟩ := Kd.R_reads HOV.out
  clear hco
  by_cases hd : st.length = 0 ∨ out.length = 256
  ·
   have hres := partsL_done HG.out hd
   subst hres
   by_cases hst : st.length = 0
   ·
    obtain rfl := List.eq_nil_of_length_eq_zero hst
    obtain ⟨A, c, rfl⟩ := Kd.R_slice HS.out
    clear hd hst
    go_wp2_with fail
    simp only [Exit.jump]
    go_ret
    exact ⟨_, rfl, HOV.out, HB.out⟩
   ·
    have h256 : res.length = 256 := by omega
    obtain ⟨A, c, rfl⟩ := Kd.R_slice HS.out
    have e1 : ((st.length : Int) == 0) = false := by simpa using hst
    have e2 : ((res.length : Int) == 256) = true := by simp; omega
    clear hd hst h256
    go_wp2_with fail
    simp only [Exit.jump]
    go_ret
    exact ⟨_, rfl, HOV.out, HB.out⟩
  ·
   obtain ⟨st0, ⟨b, lv⟩, rfl⟩ := snoc_of st (by omega)
   have h256 : out.length ≠ 256 := by omega
   obtain ⟨k, nd, ks, rfl, hbs, hop, hks, hkl, hG⟩ := partsL_step HG.out h256
   obtain ⟨gs, cap, hsv, hgs, hgl, _⟩ := Kd.R_form HS.out (by simp)
   subst hsv
   have hlen : (st0 ++ [(b, lv)]).length = st0.length + 1 := by simp
   have hS := HS.out
   rw [hlen] at hS
   obtain ⟨cc, hcl, hM, hcc, hf⟩ := Kd.R_elem hS z96 (st0.length : Int) (by omega) (by omega)
   have ho := k96_openM hM
   rw [Int.toNat_natCast] at hcc ho hf
   rw [show (st0 ++ [(b, lv)]).getD st0.length z96 = (b, lv) by simp] at ho
   subst ho
   have q0 : wq.cell? ⟨gs, st0.length * 2, none⟩ = some (.string b) := hcc 0 _ rfl
   have q1 : wq.cell? ⟨gs, st0.length * 2 + 1, none⟩ = some (.int .i64 lv) := hcc 1 _ rfl
   have hR0 : Kd.R k96 96 wq w.heap.size (fun q => q ≠ wq.heap.size) (.slice (some ⟨gs, 0, none⟩) st0.length cap) st0 := by
    have := Kd.R_take hS (m := st0.length) (by simp)
    rw [List.take_left' rfl] at this
    exact Kd.R_mono (Kd.R_bound this) (fun k hk => Nat.ne_of_lt hk.2.2.1)
   have hlv : 0 ≤ lv ∧ lv ≤ 8 := HLV.out (b, lv) (by simp)
   have e2 : ((out.length : Int) == 256) = false := by simp; omega
   have hsl : (st0.length : Int) ≤ 1099511627776 := by have h1 := HSL.out; have h2 := HO.out; rw [hlen] at h1; omega
   have hcap : st0.length + 1 ≤ cap := by have := (R_C hS).2.1; rw [hlen] at this; exact this
   have hcap1 : st0.length ≤ cap := by omega
   have hcap2 : (st0.length : Int) ≤ (cap : Int) := by omega
   have e1 : ((st0.length : Int) + 1 == 0) = false := by simp; omega
   have HSL0 := Lib.hid (show st0.length ≤ out.length * 4294967296 by have := HSL.out; rw [hlen] at this; omega)
   have HLV0 := Lib.hid (show ∀ p ∈ st0, 0 ≤ p.2 ∧ p.2 ≤ 8 from fun p hp => HLV.out p (List.mem_append_left _ hp))
   have HS0 := Lib.hid hR0
   have HBS := Lib.hid hbs
   have HOP := Lib.hid hop
   have HKS := Lib.hid hks
   have HKL := Lib.hid hkl
   have HG' := Lib.hid hG
   have HLV1 := Lib.hid hlv
   have H256 := Lib.hid h256
   rw [hlen]
   clear hd hcl hM hcc hf hR0 hlv hbs hop hks hkl hG hS HS HG hlen HSL HLV hgs hgl h256
   go_wp2_with fail
   have hb1 : Below w.heap.size w (wq.alloc (.cells #[.string b, .int .i64 lv] 96)) := HB.out.alloc HB.out.size _
   refine Calls.mono (open_any m M.out b lv nd _ (tabs_below HTT.out hb1) HBS.out HOP.out) ?_
   rintro e w2 ⟨g, rfl, hnd, hb2⟩
   have hb2' := (below_alloc (Below.refl wq.heap.size wq) (.cells #[.string b, .int .i64 lv] 96)).trans (hb2.mono (by simp))
   have HS2 := Lib.hid (Kd.R_below HS0.out hb2')
   have HOV2 := Lib.hid (Kd.R_below HOV.out hb2')
   have HB2 := Lib.hid (HB.out.trans (hb2'.mono HB.out.size))
   have ND2 := Lib.hid hnd
   have B5 : w2.heap[wq.heap.size]? = some (.cells #[.string b, .int .i64 lv] 96 (0, 0)) := blk_below (heap_alloc_new wq _) hb2
   have HB5 := Lib.hid B5
   have HGL := Lib.hid (show w.heap.size ≤ g by have h1 := hnd.low; have h2 := HB.out.size; simp at h1; omega)
   have HNE := Lib.hid (show wq.heap.size ≠ g by have h1 := hnd.low; simp at h1; omega)
   clear hb1 hb2 hb2' hnd B5 HS0 HOV HB q0 q1
   go_wp2_with fail
   refine Calls.mono (kids_any m M.out _ g nd ks w2 (tabs_below HTT.out HB2.out) ND2.out HKS.out) ?_
   rintro e w3 ⟨kv, rfl, hkv, hb3⟩
   obtain ⟨Ak, ck, rfl, hck, _⟩ := Kd.R_reads hkv
   have HS3 := Lib.hid (Kd.R_below HS2.out hb3)
   have HOV3 := Lib.hid (Kd.R_below HOV2.out hb3)
   have HB3 := Lib.hid (HB2.out.trans (hb3.mono HB2.out.size))
   have HKV3 := Lib.hid (Kd.R_lower hkv HB2.out.size)
   have HB53 := Lib.hid (blk_below HB5.out hb3)
   obtain ⟨An, cn, hblk, _, _⟩ := ND2.out.blk
   have hn3 := blk_below hblk hb3
   obtain ⟨⟨n0, n1, n2, n3, n4⟩, nset, nbody⟩ := nd
   simp only at hn3
   have d3 := fun j => blk_cell hn3 j
   have f3 := fun j => blk_frozen hn3 j
   have HN3 := Lib.hid hn3
   have HLN := Lib.hid (show 0 < ks.length → lv ≤ 7 from fun hk => lv7 HLV1.out (by rw [← openF_level HOP.out]; exact kidsF_level HKS.out hk))
   clear hkv hb3 hblk hn3 HS2 HOV2 HB2 ND2 HB5 hck
   by_cases hk0 : ks.length = 0
   ·
    have e3 : ((ks.length : Int) == 0) = true := beq_iff_eq.2 (by omega)
    have HP0 := Lib.hid (show partOf ⟨⟨n0, n1, n2, n3, n4⟩, nset, nbody⟩ ks = ⟨n0, n1, n2, n3, nbody⟩ by unfold partOf; rw [if_pos hk0])
    have hbg : Below w.heap.size w (w3.setCell ⟨g, 4, none⟩ (.string nbody)) := HB3.out.setCell (p := ⟨g, 4, none⟩) HGL.out _
    have B4 := Lib.hid hbg
    have S4 := Lib.hid (S96_set HS3.out HN3.out 4 (.string nbody))
    have O4 := Lib.hid (S53_set HOV3.out HN3.out 4 (.string nbody))
    have K4 := Lib.hid (S9_set HKV3.out HN3.out 4 (.string nbody))
    have T4 := Lib.hid (blk_far (p := ⟨g, 4, none⟩) HB53.out HNE.out (.string nbody))
    have HK0 := Lib.hid hk0
    clear hbg hk0
    go_wp2_with ((with_reducible refine gate_builtin (b := .append) (xs := #[.tmp 50, .tmp 55]) rfl ?_); (go_loud (at_builtin; refine Kd.R_append k53 (w0 := w) (W := w3.setCell ⟨g, 4, none⟩ (.string nbody)) w.heap.size rfl (.tmp 50) (.tmp 55) 50 53 (.agg #[.int .i64 0, .string ⟨#[]⟩, .string ⟨#[]⟩, .string ⟨#[]⟩, .string ⟨#[]⟩]) 72 rfl Tryz.underlying50 info53 rfl (by decide) (by decide) (.slice Ao out.length co_) out ⟨n0, n1, n2, n3, nbody⟩ _ (fun _ => True) (fun _ => False) rfl (by rw [World.size_setCell]; rfl) (k53_mkM _ _ _ _) (fun _ hk => hk.elim) (fun _ _ => trivial) O4.out B4.out B4.out.size (by have := HO.out; omega) ?_; intro v1 w5 hR hb5 hg5 hat5; obtain ⟨ga, ca, rfl, _⟩ := Kd.R_form hR (by simp); have O5 := Lib.hid hR; have B5_ := Lib.hid hb5; have S5 := Lib.hid (S96_over S4.out O4.out hg5); have K5 := Lib.hid (S9_over53 O4.out K4.out hg5); have T5 := Lib.hid (blk_grown T4.out hg5 (Kd.R_ne O4.out T4.out (by decide))); clear hR hb5 hg5 hat5)))
    go_loopw [4, 8] (fun vs vi wl => ∃ (i : Int) (j : Nat), j ≤ ks.length ∧ i = (j : Int) - 1 ∧ vi = .int .i64 i ∧ Hid (Kd.R k96 96 wl w.heap.size (fun q => q ≠ wq.heap.size) vs (st0 ++ (ks.drop j).reverse.map (fun b => (b, lv + 1)))) ∧ Hid (Kd.R k53 53 wl w.heap.size (fun _ => True) (.slice (some ⟨ga, 0, none⟩) (out.length + 1) ca) (out ++ [⟨n0, n1, n2, n3, nbody⟩])) ∧ Hid (Kd.R Kd.string 9 wl w.heap.size (fun _ => True) (.slice Ak ks.length ck) ks) ∧ Hid (wl.heap[wq.heap.size]? = some (.cells #[.string b, .int .i64 lv] 96 (0, 0))) ∧ Hid (Below w.heap.size w wl)) (fun _ vi _ => (intOf vi + 1).toNat)
    case atStart =>
     have hkl := HKL.out
     refine ⟨(ks.length : Int) - 1, ks.length, Nat.le_refl _, rfl, ?_, Lib.hid ?_, Lib.hid (by have := O5.out; rw [List.length_append] at this; exact this), K5, T5, B5_⟩
     · rw [wrap_pred _ hkl]
     · rw [List.drop_length]; simp only [List.reverse_nil, List.map_nil, List.append_nil]; exact S5.out
    case round =>
     obtain ⟨i, j, hj, rfl, rfl, SL, OL, KL, TL, BL⟩ := hrel
     clear S5 O5 K5 T5 B5_
     cases j with
     | zero =>
      go_wp2_with fail
      go_step3
      refine ⟨rfl, ⟨k, st0 ++ ks.reverse.map (fun b => (b, lv + 1)), out ++ [⟨n0, n1, n2, n3, nbody⟩], _, _, _, _, _, _, _, _, _, _, _, _, _, _, _, _, _, _, _, _, _, _, _, _, _, _, _, _, _, _, _, _, _, _, _, _, _, _, _, _, _, _, _, _, _, _, _, _, _, _, _, _, _, _, _, _, _, _, _, _, _, _, _, _, _, _, _, _, _, _, _, _, _, rfl, Lib.hid ?_, Lib.hid ?_, Lib.hid ?_, Lib.hid ?_, Lib.hid ?_, Lib.hid ?_, Lib.hid ?_⟩, ?_⟩
      ·
       have h := HG'.out
       rw [HP0.out] at h
       exact h
      ·
       have h1 := HO.out; have h2 := H256.out
       rw [List.length_append, List.length_singleton]; omega
      ·
       have h1 := HSL0.out; have h2 := HKL.out
       rw [List.length_append, List.length_map, List.length_reverse, List.length_append, List.length_singleton]; omega
      ·
       intro p hp
       rcases List.mem_append.1 hp with hp | hp
       · exact HLV0.out p hp
       ·
        obtain ⟨q, hq, rfl⟩ := List.mem_map.1 hp
        exact lv8 HLV1.out (HLN.out (by have := List.length_pos_of_mem hq; rw [List.length_reverse] at this; exact this))
      ·
       have := SL.out
       rw [List.drop_zero] at this
       exact Kd.R_mono this (fun _ _ => trivial)
      · exact OL.out
      · exact BL.out
      ·
       have h1 := HO.out; have h2 := H256.out
       show 256 - (out.length + 1) < 256 - out.length
       omega
     | succ j =>
      have hlv7 : lv ≤ 7 := HLN.out (by omega)
      have hlv0 : 0 ≤ lv := HLV1.out.1
      have hwl : IntKind.i64.wrap (lv + 1) = lv + 1 := by simp [IntKind.wrap, IntKind.bits, IntKind.signed]; omega
      obtain ⟨gk, cap2, ek, _, _, _⟩ := Kd.R_form KL.out (by omega)
      injection ek with ek1 ek2 ek3
      subst ek1
      have hkc := (Kd.R_cell (⟨#[]⟩ : ByteArray) KL.out (j : Int) (by omega) (by omega)).1
      rw [Int.toNat_natCast] at hkc
      obtain ⟨kb, hkb⟩ : ∃ kb : ByteArray, rdOf ⟨#[]⟩ ks (j : Int) = kb := ⟨_, rfl⟩
      rw [hkb] at hkc
      have hkb' : ks.drop j = kb :: ks.drop (j + 1) := by
       rw [List.drop_eq_getElem_cons (by omega)]
       congr 1
       rw [← hkb]
       simp [rdOf, List.getD, List.getElem?_eq_getElem (show j < ks.length by omega)]
      have q5 := blk_cell TL.out 1
      have hj1 : (j : Int) < (ks.length : Int) := by omega
      have hj2 : (ks.length : Int) ≤ 4294967296 := by have := HKL.out; omega
      have HKB := Lib.hid hkb'
      have HJ := Lib.hid hj
      have ei : ((j + 1 : Nat) : Int) - 1 = (j : Int) := by omega
      rw [ei]
      obtain ⟨As, cs_, rfl⟩ := Kd.R_slice SL.out
      obtain ⟨stl, hstl⟩ : ∃ stl, st0 ++ (ks.drop (j + 1)).reverse.map (fun b => (b, lv + 1)) = stl := ⟨_, rfl⟩
      rw [hstl] at SL ⊢
      have HST := Lib.hid hstl
      have HLEN := Lib.hid (show (stl.length + 1) * 24 ≤ 140737488355328 by
       have h1 := HSL0.out; have h2 := HKL.out; have h3 := HO.out
       rw [← hstl, List.length_append, List.length_map, List.length_reverse, List.length_drop]; omega)
      have SD := Lib.hid (Kd.R_drew SL.out)
      have OD := Lib.hid (Kd.R_drew OL.out)
      have KD := Lib.hid (Kd.R_drew KL.out)
      have TD_ := Lib.hid (show wr.drew.heap[wq.heap.size]? = some (.cells #[.string b, .int .i64 lv] 96 (0, 0)) from TL.out)
      clear hkb hkb' hj hstl ek2 ek3
      go_wp2_with fail
      go_region_law (refine Kd.R_append_step k96 (w0 := w) (W := wr.drew) w.heap.size ?hw (.tmp 64) (.tmp 73) 97 96 (.agg #[.string ⟨#[]⟩, .int .i64 0]) 24 rfl Tryz.underlying97 info96 rfl (by decide) (by decide) (.slice As stl.length cs_) stl (kb, lv + 1) _ (fun q => q ≠ wq.heap.size) (fun _ => False) rfl rfl (k96_mkM _ _ _ _) (fun _ hk => hk.elim) (fun q hq => Nat.ne_of_gt (Nat.lt_of_lt_of_le (blk_lt TL.out) hq)) ?hO ?hB ?hbase HLEN.out ?_; (case hw => rfl); (case hO => exact SD.out); (case hB => exact below_drew BL.out); (case hbase => exact BL.out.size); intro v1 w6 hR hb6 hg6 hat6; have S6 := Lib.hid hR; have B6 := Lib.hid hb6; have O6 := Lib.hid (S53_over SD.out OD.out hg6); have K6 := Lib.hid (S9_over SD.out KD.out hg6); have T6 := Lib.hid (blk_grown TD_.out hg6 (Kd.R_away SD.out (fun q hq => hq))); clear hR hb6 hg6 hat6)
      all_goals
       have hj5 : j ≤ 4294967296 := by have h1 := HJ.out; have h2 := HKL.out; omega
       go_wp2_with fail
       go_roundw
       case measure =>
        show ((j : Int) - 1 + 1).toNat < ((j : Int) + 1).toNat
        omega
       case rel =>
        refine ⟨(j : Int) - 1, j, by have := HJ.out; omega, rfl, rfl, Lib.hid ?_, O6, K6, T6, B6⟩
        ·
         have h := S6.out
         rw [← HST.out] at h
         rw [HKB.out, List.reverse_cons, List.map_append, ← List.append_assoc]
         exact h
   ·
    have e3 : ((ks.length : Int) == 0) = false := by simpa using hk0
    have HP0 := Lib.hid (show partOf ⟨⟨n0, n1, n2, n3, n4⟩, nset, nbody⟩ ks = ⟨n0, n1, n2, n3, n4⟩ by unfold partOf; rw [if_neg hk0])
    clear hk0
    go_wp2_with ((with_reducible refine gate_builtin (b := .append) (xs := #[.tmp 50, .tmp 55]) rfl ?_); (go_loud (at_builtin; refine Kd.R_append k53 (w0 := w) (W := w3) w.heap.size rfl (.tmp 50) (.tmp 55) 50 53 (.agg #[.int .i64 0, .string ⟨#[]⟩, .string ⟨#[]⟩, .string ⟨#[]⟩, .string ⟨#[]⟩]) 72 rfl Tryz.underlying50 info53 rfl (by decide) (by decide) (.slice Ao out.length co_) out ⟨n0, n1, n2, n3, n4⟩ _ (fun _ => True) (fun _ => False) rfl rfl (k53_mkM _ _ _ _) (fun _ hk => hk.elim) (fun _ _ => trivial) HOV3.out HB3.out HB3.out.size (by have := HO.out; omega) ?_; intro v1 w5 hR hb5 hg5 hat5; obtain ⟨ga, ca, rfl, _⟩ := Kd.R_form hR (by simp); have O5 := Lib.hid hR; have B5_ := Lib.hid hb5; have S5 := Lib.hid (S96_over HS3.out HOV3.out hg5); have K5 := Lib.hid (S9_over53 HOV3.out HKV3.out hg5); have T5 := Lib.hid (blk_grown HB53.out hg5 (Kd.R_ne HOV3.out HB53.out (by decide))); clear hR hb5 hg5 hat5)))
    go_loopw [4, 8] (fun vs vi wl => ∃ (i : Int) (j : Nat), j ≤ ks.length ∧ i = (j : Int) - 1 ∧ vi = .int .i64 i ∧ Hid (Kd.R k96 96 wl w.heap.size (fun q => q ≠ wq.heap.size) vs (st0 ++ (ks.drop j).reverse.map (fun b => (b, lv + 1)))) ∧ Hid (Kd.R k53 53 wl w.heap.size (fun _ => True) (.slice (some ⟨ga, 0, none⟩) (out.length + 1) ca) (out ++ [⟨n0, n1, n2, n3, n4⟩])) ∧ Hid (Kd.R Kd.string 9 wl w.heap.size (fun _ => True) (.slice Ak ks.length ck) ks) ∧ Hid (wl.heap[wq.heap.size]? = some (.cells #[.string b, .int .i64 lv] 96 (0, 0))) ∧ Hid (Below w.heap.size w wl)) (fun _ vi _ => (intOf vi + 1).toNat)
    case atStart =>
     have hkl := HKL.out
     refine ⟨(ks.length : Int) - 1, ks.length, Nat.le_refl _, rfl, ?_, Lib.hid ?_, Lib.hid (by have := O5.out; rw [List.length_append] at this; exact this), K5, T5, B5_⟩
     · rw [wrap_pred _ hkl]
     · rw [List.drop_length]; simp only [List.reverse_nil, List.map_nil, List.append_nil]; exact S5.out
    case round =>
     obtain ⟨i, j, hj, rfl, rfl, SL, OL, KL, TL, BL⟩ := hrel
     clear S5 O5 K5 T5 B5_
     cases j with
     | zero =>
      go_wp2_with fail
      go_step3
      refine ⟨rfl, ⟨k, st0 ++ ks.reverse.map (fun b => (b, lv + 1)), out ++ [⟨n0, n1, n2, n3, n4⟩], _, _, _, _, _, _, _, _, _, _, _, _, _, _, _, _, _, _, _, _, _, _, _, _, _, _, _, _, _, _, _, _, _, _, _, _, _, _, _, _, _, _, _, _, _, _, _, _, _, _, _, _, _, _, _, _, _, _, _, _, _, _, _, _, _, _, _, _, _, _, _, _, _, rfl, Lib.hid ?_, Lib.hid ?_, Lib.hid ?_, Lib.hid ?_, Lib.hid ?_, Lib.hid ?_, Lib.hid ?_⟩, ?_⟩
      ·
       have h := HG'.out
       rw [HP0.out] at h
       exact h
      ·
       have h1 := HO.out; have h2 := H256.out
       rw [List.length_append, List.length_singleton]; omega
      ·
       have h1 := HSL0.out; have h2 := HKL.out
       rw [List.length_append, List.length_map, List.length_reverse, List.length_append, List.length_singleton]; omega
      ·
       intro p hp
       rcases List.mem_append.1 hp with hp | hp
       · exact HLV0.out p hp
       ·
        obtain ⟨q, hq, rfl⟩ := List.mem_map.1 hp
        exact lv8 HLV1.out (HLN.out (by have := List.length_pos_of_mem hq; rw [List.length_reverse] at this; exact this))
      ·
       have := SL.out
       rw [List.drop_zero] at this
       exact Kd.R_mono this (fun _ _ => trivial)
      · exact OL.out
      · exact BL.out
      ·
       have h1 := HO.out; have h2 := H256.out
       show 256 - (out.length + 1) < 256 - out.length
       omega
     | succ j =>
      have hlv7 : lv ≤ 7 := HLN.out (by omega)
      have hlv0 : 0 ≤ lv := HLV1.out.1
      have hwl : IntKind.i64.wrap (lv + 1) = lv + 1 := by simp [IntKind.wrap, IntKind.bits, IntKind.signed]; omega
      obtain ⟨gk, cap2, ek, _, _, _⟩ := Kd.R_form KL.out (by omega)
      injection ek with ek1 ek2 ek3
      subst ek1
      have hkc := (Kd.R_cell (⟨#[]⟩ : ByteArray) KL.out (j : Int) (by omega) (by omega)).1
      rw [Int.toNat_natCast] at hkc
      obtain ⟨kb, hkb⟩ : ∃ kb : ByteArray, rdOf ⟨#[]⟩ ks (j : Int) = kb := ⟨_, rfl⟩
      rw [hkb] at hkc
      have hkb' : ks.drop j = kb :: ks.drop (j + 1) := by
       rw [List.drop_eq_getElem_cons (by omega)]
       congr 1
       rw [← hkb]
       simp [rdOf, List.getD, List.getElem?_eq_getElem (show j < ks.length by omega)]
      have q5 := blk_cell TL.out 1
      have hj1 : (j : Int) < (ks.length : Int) := by omega
      have hj2 : (ks.length : Int) ≤ 4294967296 := by have := HKL.out; omega
      have HKB := Lib.hid hkb'
      have HJ := Lib.hid hj
      have ei : ((j + 1 : Nat) : Int) - 1 = (j : Int) := by omega
      rw [ei]
      obtain ⟨As, cs_, rfl⟩ := Kd.R_slice SL.out
      obtain ⟨stl, hstl⟩ : ∃ stl, st0 ++ (ks.drop (j + 1)).reverse.map (fun b => (b, lv + 1)) = stl := ⟨_, rfl⟩
      rw [hstl] at SL ⊢
      have HST := Lib.hid hstl
      have HLEN := Lib.hid (show (stl.length + 1) * 24 ≤ 140737488355328 by
       have h1 := HSL0.out; have h2 := HKL.out; have h3 := HO.out
       rw [← hstl, List.length_append, List.length_map, List.length_reverse, List.length_drop]; omega)
      have SD := Lib.hid (Kd.R_drew SL.out)
      have OD := Lib.hid (Kd.R_drew OL.out)
      have KD := Lib.hid (Kd.R_drew KL.out)
      have TD_ := Lib.hid (show wr.drew.heap[wq.heap.size]? = some (.cells #[.string b, .int .i64 lv] 96 (0, 0)) from TL.out)
      clear hkb hkb' hj hstl ek2 ek3
      go_wp2_with fail
      go_region_law (refine Kd.R_append_step k96 (w0 := w) (W := wr.drew) w.heap.size ?hw (.tmp 64) (.tmp 73) 97 96 (.agg #[.string ⟨#[]⟩, .int .i64 0]) 24 rfl Tryz.underlying97 info96 rfl (by decide) (by decide) (.slice As stl.length cs_) stl (kb, lv + 1) _ (fun q => q ≠ wq.heap.size) (fun _ => False) rfl rfl (k96_mkM _ _ _ _) (fun _ hk => hk.elim) (fun q hq => Nat.ne_of_gt (Nat.lt_of_lt_of_le (blk_lt TL.out) hq)) ?hO ?hB ?hbase HLEN.out ?_; (case hw => rfl); (case hO => exact SD.out); (case hB => exact below_drew BL.out); (case hbase => exact BL.out.size); intro v1 w6 hR hb6 hg6 hat6; have S6 := Lib.hid hR; have B6 := Lib.hid hb6; have O6 := Lib.hid (S53_over SD.out OD.out hg6); have K6 := Lib.hid (S9_over SD.out KD.out hg6); have T6 := Lib.hid (blk_grown TD_.out hg6 (Kd.R_away SD.out (fun q hq => hq))); clear hR hb6 hg6 hat6)
      all_goals
       have hj5 : j ≤ 4294967296 := by have h1 := HJ.out; have h2 := HKL.out; omega
       go_wp2_with fail
       go_roundw
       case measure =>
        show ((j : Int) - 1 + 1).toNat < ((j : Int) + 1).toNat
        omega
       case rel =>
        refine ⟨(j : Int) - 1, j, by have := HJ.out; omega, rfl, rfl, Lib.hid ?_, O6, K6, T6, B6⟩
        ·
         have h := S6.out
         rw [← HST.out] at h
         rw [HKB.out, List.reverse_cons, List.map_append, ← List.append_assoc]
         exact h
structure Pc where
 ahead : ByteArray
 word : List Int
 is : Bool
abbrev OneF := ByteArray → Option (List Int × ByteArray × Int)
def OneOK (one : OneF) : Prop := ∀ (s : ByteArray) (l : List Int) (rest : ByteArray) (why : Int) (w : World), Tabs w → one s = some (l, rest, why) →
 Calls Tryz.prog 80 #[.string s] w fun e w' => ∃ v, e = .returned (.tuple #[v, .string rest, .int .i64 why]) ∧ Kd.R (Kd.int .i32) 21 w' w.heap.size (fun _ => True) v l ∧ Below w.heap.size w w'
def isB (s : ByteArray) : Bool := Lib.hasPrefix s.data.toList [61, 63]
def lastP (s : ByteArray) (k : Nat) : Pc := ⟨s.extract k s.size, [], false⟩
def pcsL (one : OneF) (s : ByteArray) : Nat → Nat → Nat → Option (List Pc)
 | 0, k, i => if s.size ≤ i then some [lastP s k] else none
 | m + 1, k, i => if s.size ≤ i then some [lastP s k]
  else if isB (s.extract i s.size) = true then
   (one (s.extract i s.size)).bind fun r => if r.2.2 = 0 then (if r.2.1.size ≤ s.size ∧ i < s.size - r.2.1.size then (pcsL one s m (s.size - r.2.1.size) (s.size - r.2.1.size)).map (⟨s.extract k i, r.1, true⟩ :: ·) else none) else pcsL one s m k (i + 1)
  else pcsL one s m k (i + 1)
theorem pcsL_end {one : OneF} {s : ByteArray} {m k i : Nat} {P : List Pc} (h : pcsL one s m k i = some P) (hi : s.size ≤ i) : P = [lastP s k] := by
 cases m with
 | zero => unfold pcsL at h; rw [if_pos hi] at h; injection h with h; exact h.symm
 | succ m => unfold pcsL at h; rw [if_pos hi] at h; injection h with h; exact h.symm
theorem pcsL_skip {one : OneF} {s : ByteArray} {m k i : Nat} {P : List Pc} (h : pcsL one s m k i = some P) (hi : i < s.size) (hb : isB (s.extract i s.size) = false) : ∃ j, m = j + 1 ∧ pcsL one s j k (i + 1) = some P := by
 have hn : ¬ s.size ≤ i := by omega
 cases m with
 | zero => unfold pcsL at h; rw [if_neg hn] at h; cases h
 | succ m =>
  unfold pcsL at h
  rw [if_neg hn, if_neg (by rw [hb]; simp)] at h
  exact ⟨m, rfl, h⟩
theorem pcsL_one {one : OneF} {s : ByteArray} {m k i : Nat} {P : List Pc} (h : pcsL one s m k i = some P) (hi : i < s.size) (hb : isB (s.extract i s.size) = true) :
  ∃ j l rest why, m = j + 1 ∧ one (s.extract i s.size) = some (l, rest, why) ∧ ((why ≠ 0 ∧ pcsL one s j k (i + 1) = some P) ∨ (why = 0 ∧ rest.size ≤ s.size ∧ i < s.size - rest.size ∧ ∃ Q, P = ⟨s.extract k i, l, true⟩ :: Q ∧ pcsL one s j (s.size - rest.size) (s.size - rest.size) = some Q)) := by
 have hn : ¬ s.size ≤ i := by omega
 cases m with
 | zero => unfold pcsL at h; rw [if_neg hn] at h; cases h
 | succ m =>
  unfold pcsL at h
  rw [if_neg hn, if_pos hb] at h
  obtain ⟨⟨l, rest, why⟩, h1, h2⟩ := Option.bind_eq_some_iff.1 h
  refine ⟨m, l, rest, why, rfl, h1, ?_⟩
  simp only at h2
  by_cases hw : why = 0
  ·
   rw [if_pos hw] at h2
   by_cases hg : rest.size ≤ s.size ∧ i < s.size - rest.size
   ·
    rw [if_pos hg] at h2
    obtain ⟨Q, hQ, e⟩ := Option.map_eq_some_iff.1 h2
    exact .inr ⟨hw, hg.1, hg.2, Q, e.symm, hQ⟩
   · rw [if_neg hg] at h2; cases h2
  ·
   rw [if_neg hw] at h2
   exact .inl ⟨hw, h2⟩
def blanksB (s : ByteArray) : ByteArray := ⟨(Lib.trimS s.data.toList [32, 9]).toArray⟩
def takesB (k : Nat) (p : Pc) : Bool := decide (k = 0) || !p.is || !(blanksB p.ahead).toList.isEmpty
def stepD (k : Nat) (p : Pc) (out : List Int) : List Int := (if takesB k p = true then out ++ Fold.lettersF p.ahead.size p.ahead else out) ++ p.word
def foldD : Nat → List Pc → List Int → Option (List Int)
 | k, [], out => some out
 | k, p :: r, out => if p.ahead.size ≤ 1073741824 ∧ (stepD k p out).length ≤ 1099511627776 then foldD (k + 1) r (stepD k p out) else none
def decodeF (one : OneF) (s : ByteArray) : Option (List Int) := if s.size ≤ 1073741824 then (pcsL one s s.size 0 0).bind fun P => foldD 0 P [] else none
theorem pcsL_le {one one' : OneF} (h : ∀ a, LeO (one a) (one' a)) (s : ByteArray) : ∀ m k i, LeO (pcsL one s m k i) (pcsL one' s m k i)
 | 0, k, i => by unfold pcsL; exact LeO.refl _
 | m + 1, k, i => by
  unfold pcsL
  exact LeO.ite (LeO.refl _) (LeO.ite (LeO.bind (h _) fun r => LeO.ite (LeO.ite (LeO.map _ (pcsL_le h s m _ _)) (LeO.refl _)) (pcsL_le h s m _ _)) (pcsL_le h s m _ _))
theorem decodeF_le {one one' : OneF} (h : ∀ a, LeO (one a) (one' a)) (s : ByteArray) : LeO (decodeF one s) (decodeF one' s) := by
 unfold decodeF
 exact LeO.ite (LeO.bind (pcsL_le h s _ _ _) fun _ => LeO.refl _) (LeO.refl _)
end Go.Proofs.YtigcbajcifhinaaGreatDoor.Txt
