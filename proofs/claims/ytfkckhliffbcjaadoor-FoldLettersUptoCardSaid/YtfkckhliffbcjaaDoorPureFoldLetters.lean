/- Any letters, and any text, have their folds: the plain law. -/
import Derived.Test.YtfkckhliffbcjaaDoorGY1
import Derived.Shelf.Unicode.DecodeLastEight
namespace Go.Proofs.YtfkckhliffbcjaaDoor.FoldY
open Go.RowKit Go.Proofs.YtfkckhliffbcjaaDoor.Y Go.Proofs.YtfkckhliffbcjaaDoorW.PrintWords Go.Proofs.YtfkckhliffbcjaaDoorW.PrintLast Go.Proofs.YtfkckhliffbcjaaDoor.Fold

set_option linter.unusedVariables false
set_option linter.unusedSimpArgs false

theorem ev_lives : Ev (fun k => missivelaw07_lives.f k) true := Ev.of (fun k => missivelaw07_lives.mono k) (k := 40) (by decide +kernel)

theorem ref_small : ((List.range 8500).all fun m => missiveref07_One.f 10 (m : Int) == some (oneF (m : Int))) = true := by decide +kernel

theorem within_low {n a b : Int} (h : n < a) : missiveref07_within.f n a b = some false := by
  unfold missiveref07_within.f
  rw [if_neg (by omega)]
theorem within_high {n a b : Int} (h : a ≤ n) (h2 : b < n) : missiveref07_within.f n a b = some false := by
  unfold missiveref07_within.f
  rw [if_pos (by omega), decide_eq_false (by omega)]

theorem ref_out (n : Int) (hw : ∀ a b : Int, 0 ≤ a → b < 8500 → missiveref07_within.f n a b = some false) (h : n < 0 ∨ 8500 ≤ n) : missiveref07_One.f 10 n = some n := by
  unfold missiveref07_One.f
  simp only [hw 65 90 (by decide) (by decide), hw 192 222 (by decide) (by decide), hw 913 937 (by decide) (by decide), hw 1040 1071 (by decide) (by decide), Option.bind_some, Bool.false_eq_true, if_false]
  simp only [missiveref07_One.j0, missiveref07_One.j1, missiveref07_One.j2, hw 1024 1039 (by decide) (by decide), hw 256 302 (by decide) (by decide), hw 306 310 (by decide) (by decide), hw 330 374 (by decide) (by decide), hw 313 327 (by decide) (by decide), hw 377 381 (by decide) (by decide), Option.bind_some, Bool.false_eq_true, if_false, ite_self]
  rw [if_neg (by omega), if_neg (by omega), if_neg (by omega), if_neg (by omega), if_neg (by omega), if_neg (by omega), if_neg (by omega), if_neg (by omega)]

theorem ref_One (n : Int) : missiveref07_One.f 10 n = some (oneF n) := by
  by_cases h : 0 ≤ n ∧ n < 8500
  · obtain ⟨m, rfl⟩ := Int.eq_ofNat_of_zero_le h.1
    have hs := List.all_eq_true.1 ref_small m (List.mem_range.2 (by omega))
    exact eq_of_beq hs
  · have hf : fold_One.f 10 n = some n := by
      by_cases h0 : n < 0
      · exact one_low n h0
      · exact one_high n (by omega)
    have e : oneF n = n := by unfold oneF; rw [hf]; rfl
    rw [e]
    by_cases h0 : n < 0
    · exact ref_out n (fun a b ha _ => within_low (by omega)) (.inl h0)
    · exact ref_out n (fun a b _ hb => by
        by_cases h1 : a ≤ n
        · exact within_high h1 (by omega)
        · exact within_low (by omega)) (.inr (by omega))

theorem ev_RefOne (n : Int) : Ev (fun k => missiveref07_One.f k n) (oneF n) := Ev.of (missiveref07_One.mono n) (ref_One n)

theorem ev_RefFold_l (l : List Int) (hl : l.length < 35184372088832) : ∀ (d i : Nat), i + d = l.length → Ev (fun k => missiveref07_Fold.l0 k ((l.take i).map oneF) l (l.length : Int) (i : Int)) (l.map oneF) := by
  intro d
  induction d with
  | zero =>
    intro i hi
    rw [List.take_of_length_le (by omega)]
    refine Ev.step (fun k => ?_) (Ev.now _)
    simp only [missiveref07_Fold.l0]
    rw [if_neg (by omega)]
  | succ d ih =>
    intro i hi
    have hlen : ((l.take i).map oneF).length < 35184372088832 := by simp only [List.length_map, List.length_take]; omega
    refine Ev.step (f := fun k => (missiveref07_One.f k (rd l (i : Int))).bind fun t109 => missiveref07_Fold.l0 k ((l.take i).map oneF ++ [t109]) l (l.length : Int) ((i + 1 : Nat) : Int)) (fun k => ?_) (Ev.bind (ev_RefOne _) ?_)
    · simp only [missiveref07_Fold.l0]
      rw [if_pos (by omega), if_pos (by omega), if_pos (by omega), wrap64_id ((i : Int) + 1) (by omega) (by omega)]
      simp only [hlen, if_true]
      rfl
    · have e : (l.take i).map oneF ++ [oneF (rd l (i : Int))] = (l.take (i + 1)).map oneF := by
        rw [List.take_succ_eq_append_getElem (by omega), List.map_append, rd_get l i (by omega)]
        rfl
      rw [e]
      exact ih (i + 1) (by omega)

theorem ev_RefFold (l : List Int) (hl : l.length < 35184372088832) : Ev (fun k => missiveref07_Fold.f k l) (l.map oneF) := ev_RefFold_l l hl l.length 0 (by omega)

/-! ### a text's next letter -/
theorem w32 (n : Int) (h1 : -2147483648 ≤ n) (h2 : n ≤ 2147483647) : wrap32 n = n := by unfold wrap32; omega

theorem bt_get (s : ByteArray) (i : Nat) (h : i < s.size) : bt s (i : Int) = ((s.get! i).toNat : Int) := by
  unfold bt
  rw [dif_pos (by simpa using h)]
  simp only [Int.toNat_natCast]
  rw [show s.get! i = s[i]'h from by simp [ByteArray.get!, ByteArray.getElem_eq_getElem_data, getElem!_pos, h, show i < s.data.size from h]]

/-- The reference's last step. -/
def fin (s : ByteArray) (n : Int) (m : Nat) : Option (Int × Int) := (missiveref06_Is.f n).bind fun t201 => (if t201 = true then ((missiveref06_one.f n).bind fun t202 => (if 0 ≤ (m : Int) then (if (m : Int) ≤ (s.size : Int) then (if t202.toList = (s.extract 0 ((m : Int) : Int).toNat).toList then (some (n, (m : Int))) else (some (65533, 1))) else (none)) else (none))) else (some (65533, 1)))

theorem l0_end (k : Nat) (s : ByteArray) (n : Int) (m : Nat) : missiveref06_next.l0 (k + 1) s n (m : Int) (m : Int) = fin s n m := by
  simp only [missiveref06_next.l0]
  rw [if_neg (by omega)]
  rfl
theorem l0_step (k : Nat) (s : ByteArray) (n : Int) (m i : Nat) (hi : i < m) (hm : m ≤ 4) (hs : i < s.size) (h0 : 0 ≤ n) (h1 : n < 1114112) : missiveref06_next.l0 (k + 1) s n (m : Int) (i : Int) = missiveref06_next.l0 k s (64 * n + ((s.get! i).toNat % 64 : Nat)) (m : Int) ((i + 1 : Nat) : Int) := by
  simp only [missiveref06_next.l0]
  rw [if_pos (by omega), if_pos (by omega), if_pos (by omega), bt_get s i hs]
  have hb : (s.get! i).toNat < 256 := (s.get! i).toNat_lt
  have e1 : Int.tmod (((s.get! i).toNat : Nat) : Int) 64 = (((s.get! i).toNat % 64 : Nat) : Int) := by
    rw [Int.tmod_eq_emod_of_nonneg (by omega)]
    omega
  rw [e1]
  have e2 : wrap32 (wrap32 (64 * n) + wrap32 (((s.get! i).toNat % 64 : Nat) : Int)) = 64 * n + ((s.get! i).toNat % 64 : Nat) := by
    rw [w32 (64 * n) (by omega) (by omega), w32 (((s.get! i).toNat % 64 : Nat) : Int) (by omega) (by omega), w32 _ (by omega) (by omega)]
  rw [e2, wrap64_id ((i : Int) + 1) (by omega) (by omega)]
  rfl

theorem is_letter (n : Int) (h0 : 0 ≤ n) (h1 : n ≤ 1114111) : missiveref06_Is.f n = some (decide (n < 55296 ∨ 57344 ≤ n)) := by
  unfold missiveref06_Is.f
  rw [if_pos (by omega), if_pos (by omega)]
  by_cases h : n < 55296
  · rw [if_pos h, decide_eq_true (.inl h)]
  · rw [if_neg h]
    congr 1
    exact decide_eq_decide.2 (by omega)
theorem is_great (n : Int) (h1 : 1114111 < n) : missiveref06_Is.f n = some false := by
  unfold missiveref06_Is.f
  rw [if_pos (by omega), if_neg (by omega)]

theorem str_list (l : List Int) : (strOfNums l).toList = l.map fun n => UInt8.ofNat n.toNat := by
  rw [Lib.toList_data]
  rfl

theorem one_1 (n : Nat) (h : n < 128) : missiveref06_one.f (n : Int) = some (strOfNums [(n : Int)]) := by
  unfold missiveref06_one.f
  rw [if_pos (by omega), show (n : Int) % 256 = n by omega]
theorem one_2 (n : Nat) (h0 : 128 ≤ n) (h : n < 2048) : missiveref06_one.f (n : Int) = some (strOfNums [((192 + n / 64 : Nat) : Int), ((128 + n % 64 : Nat) : Int)]) := by
  unfold missiveref06_one.f
  rw [if_neg (by omega), if_pos (by omega)]
  have e1 : (wrap32 (192 + wrap32 (Int.tdiv (n : Int) 64))) % 256 = ((192 + n / 64 : Nat) : Int) := by
    rw [Int.tdiv_eq_ediv_of_nonneg (by omega), w32 ((n : Int) / 64) (by omega) (by omega), w32 _ (by omega) (by omega)]
    omega
  have e2 : (wrap32 (128 + Int.tmod (n : Int) 64)) % 256 = ((128 + n % 64 : Nat) : Int) := by
    rw [Int.tmod_eq_emod_of_nonneg (by omega), w32 _ (by omega) (by omega)]
    omega
  rw [e1, e2]
theorem one_3 (n : Nat) (h0 : 2048 ≤ n) (h : n < 65536) : missiveref06_one.f (n : Int) = some (strOfNums [((224 + n / 4096 : Nat) : Int), ((128 + n / 64 % 64 : Nat) : Int), ((128 + n % 64 : Nat) : Int)]) := by
  unfold missiveref06_one.f
  rw [if_neg (by omega), if_neg (by omega), if_pos (by omega)]
  have e1 : (wrap32 (224 + wrap32 (Int.tdiv (n : Int) 4096))) % 256 = ((224 + n / 4096 : Nat) : Int) := by
    rw [Int.tdiv_eq_ediv_of_nonneg (by omega), w32 ((n : Int) / 4096) (by omega) (by omega), w32 _ (by omega) (by omega)]
    omega
  have e2 : (wrap32 (128 + Int.tmod (n : Int) 64)) % 256 = ((128 + n % 64 : Nat) : Int) := by
    rw [Int.tmod_eq_emod_of_nonneg (by omega), w32 _ (by omega) (by omega)]
    omega
  have e3 : (wrap32 (128 + Int.tmod (wrap32 (Int.tdiv (n : Int) 64)) 64)) % 256 = ((128 + n / 64 % 64 : Nat) : Int) := by
    rw [Int.tdiv_eq_ediv_of_nonneg (by omega), w32 ((n : Int) / 64) (by omega) (by omega), Int.tmod_eq_emod_of_nonneg (by omega), w32 _ (by omega) (by omega)]
    omega
  rw [e1, e2, e3]
theorem one_4 (n : Nat) (h0 : 65536 ≤ n) (h : n < 1114112) : missiveref06_one.f (n : Int) = some (strOfNums [((240 + n / 262144 : Nat) : Int), ((128 + n / 4096 % 64 : Nat) : Int), ((128 + n / 64 % 64 : Nat) : Int), ((128 + n % 64 : Nat) : Int)]) := by
  unfold missiveref06_one.f
  rw [if_neg (by omega), if_neg (by omega), if_neg (by omega)]
  have e1 : (wrap32 (240 + wrap32 (Int.tdiv (n : Int) 262144))) % 256 = ((240 + n / 262144 : Nat) : Int) := by
    rw [Int.tdiv_eq_ediv_of_nonneg (by omega), w32 ((n : Int) / 262144) (by omega) (by omega), w32 _ (by omega) (by omega)]
    omega
  have e2 : (wrap32 (128 + Int.tmod (n : Int) 64)) % 256 = ((128 + n % 64 : Nat) : Int) := by
    rw [Int.tmod_eq_emod_of_nonneg (by omega), w32 _ (by omega) (by omega)]
    omega
  have e3 : (wrap32 (128 + Int.tmod (wrap32 (Int.tdiv (n : Int) 64)) 64)) % 256 = ((128 + n / 64 % 64 : Nat) : Int) := by
    rw [Int.tdiv_eq_ediv_of_nonneg (by omega), w32 ((n : Int) / 64) (by omega) (by omega), Int.tmod_eq_emod_of_nonneg (by omega), w32 _ (by omega) (by omega)]
    omega
  have e4 : (wrap32 (128 + Int.tmod (wrap32 (Int.tdiv (n : Int) 4096)) 64)) % 256 = ((128 + n / 4096 % 64 : Nat) : Int) := by
    rw [Int.tdiv_eq_ediv_of_nonneg (by omega), w32 ((n : Int) / 4096) (by omega) (by omega), Int.tmod_eq_emod_of_nonneg (by omega), w32 _ (by omega) (by omega)]
    omega
  rw [e1, e2, e3, e4]

/-- How many bytes a letter has. -/
def wide (n : Nat) : Nat := if n < 128 then 1 else if n < 2048 then 2 else if n < 65536 then 3 else 4
/-- Its bytes. -/
def bytes (n : Nat) : List Nat := if n < 128 then [n] else if n < 2048 then [192 + n / 64, 128 + n % 64] else if n < 65536 then [224 + n / 4096, 128 + n / 64 % 64, 128 + n % 64] else [240 + n / 262144, 128 + n / 4096 % 64, 128 + n / 64 % 64, 128 + n % 64]

theorem one_bytes (n : Nat) (h : n < 1114112) : ∃ t, missiveref06_one.f (n : Int) = some t ∧ t.toList = (bytes n).map UInt8.ofNat := by
  unfold bytes
  by_cases h1 : n < 128
  · rw [if_pos h1]
    exact ⟨_, one_1 n h1, by rw [str_list]; simp⟩
  · rw [if_neg h1]
    by_cases h2 : n < 2048
    · rw [if_pos h2]
      exact ⟨_, one_2 n (by omega) h2, by rw [str_list]; simp only [List.map_cons, List.map_nil, Int.toNat_natCast]⟩
    · rw [if_neg h2]
      by_cases h3 : n < 65536
      · rw [if_pos h3]
        exact ⟨_, one_3 n (by omega) h3, by rw [str_list]; simp only [List.map_cons, List.map_nil, Int.toNat_natCast]⟩
      · rw [if_neg h3]
        exact ⟨_, one_4 n (by omega) h, by rw [str_list]; simp only [List.map_cons, List.map_nil, Int.toNat_natCast]⟩

/-- The bytes that a text begins with. -/
theorem head_bytes (s : ByteArray) : ∀ m, m ≤ s.size → (s.extract 0 m).toList = (List.range m).map fun i => s.get! i := by
  intro m hm
  rw [Lib.toList_data]
  apply List.ext_getElem
  · have : (s.extract 0 m).data.toList.length = (s.extract 0 m).size := rfl
    rw [this, ByteArray.size_extract]
    simp
    omega
  · intro i h1 h2
    have hi : i < m := by simpa using h2
    simp only [List.getElem_map, List.getElem_range]
    have hd : i < s.data.size := by have : s.data.size = s.size := rfl; omega
    have e1 : (s.extract 0 m).data.toList[i] = s.data[i]'hd := by
      simp [ByteArray.data_extract]
    rw [e1]
    exact (getElem!_pos s.data i hd).symm

theorem ofNat_inj {a : Nat} {c : UInt8} (h : a < 256) : UInt8.ofNat a = c ↔ a = c.toNat := by
  constructor
  · intro e
    rw [← e]
    simp [UInt8.toNat_ofNat', Nat.mod_eq_of_lt h]
  · intro e
    rw [e]
    simp

/-- What the last step tells. -/
theorem fin_eq (s : ByteArray) (n m : Nat) (hm : m ≤ s.size) : fin s (n : Int) m = some (if (n < 55296 ∨ 57344 ≤ n) ∧ n < 1114112 ∧ (bytes n).map UInt8.ofNat = (List.range m).map (fun i => s.get! i) then ((n : Int), (m : Int)) else (65533, 1)) := by
  unfold fin
  by_cases hn : n < 1114112
  · rw [is_letter _ (by omega) (by omega), Option.bind_some]
    by_cases hl : n < 55296 ∨ 57344 ≤ n
    · rw [if_pos (decide_eq_true (by omega))]
      obtain ⟨t, ht, hb⟩ := one_bytes n hn
      rw [ht, Option.bind_some, if_pos (by omega), if_pos (by omega), hb, Int.toNat_natCast, head_bytes s m hm]
      by_cases e : (bytes n).map UInt8.ofNat = (List.range m).map (fun i => s.get! i)
      · rw [if_pos e, if_pos ⟨hl, hn, e⟩]
      · rw [if_neg e, if_neg (fun h => e h.2.2)]
    · rw [if_neg (by simp only [decide_eq_true_eq]; omega), if_neg (fun h => hl h.1)]
  · rw [is_great _ (by omega), Option.bind_some, if_neg (by decide), if_neg (fun h => hn h.2.1)]

theorem fin_yes (s : ByteArray) (n m : Nat) (hm : m ≤ s.size) (h : (n < 55296 ∨ 57344 ≤ n) ∧ n < 1114112 ∧ (bytes n).map UInt8.ofNat = (List.range m).map (fun i => s.get! i)) : fin s (n : Int) m = some ((n : Int), (m : Int)) := by
  rw [fin_eq s n m hm, if_pos h]
theorem fin_no (s : ByteArray) (n m : Nat) (hm : m ≤ s.size) (h : ¬ ((n < 55296 ∨ 57344 ≤ n) ∧ n < 1114112 ∧ (bytes n).map UInt8.ofNat = (List.range m).map (fun i => s.get! i))) : fin s (n : Int) m = some (65533, 1) := by
  rw [fin_eq s n m hm, if_neg h]

theorem bytes_1 (n : Nat) (c0 : UInt8) : (bytes n).map UInt8.ofNat = [c0] ↔ n < 128 ∧ n = c0.toNat := by
  unfold bytes
  split
  · simp only [List.map_cons, List.map_nil, List.cons.injEq, and_true]
    rw [ofNat_inj (by omega)]
    omega
  · split
    · simp; omega
    · split
      · simp; omega
      · simp; omega
theorem bytes_2 (n : Nat) (c0 c1 : UInt8) : (bytes n).map UInt8.ofNat = [c0, c1] ↔ 128 ≤ n ∧ n < 2048 ∧ 192 + n / 64 = c0.toNat ∧ 128 + n % 64 = c1.toNat := by
  unfold bytes
  split
  · simp; omega
  · split
    · simp only [List.map_cons, List.map_nil, List.cons.injEq, and_true]
      rw [ofNat_inj (by omega), ofNat_inj (by omega)]
      omega
    · split
      · simp; omega
      · simp; omega
theorem bytes_3 (n : Nat) (c0 c1 c2 : UInt8) : (bytes n).map UInt8.ofNat = [c0, c1, c2] ↔ 2048 ≤ n ∧ n < 65536 ∧ 224 + n / 4096 = c0.toNat ∧ 128 + n / 64 % 64 = c1.toNat ∧ 128 + n % 64 = c2.toNat := by
  unfold bytes
  split
  · simp; omega
  · split
    · simp; omega
    · split
      · simp only [List.map_cons, List.map_nil, List.cons.injEq, and_true]
        rw [ofNat_inj (by omega), ofNat_inj (by omega), ofNat_inj (by omega)]
        omega
      · simp; omega
theorem bytes_4 (n : Nat) (hn : n < 1114112) (c0 c1 c2 c3 : UInt8) : (bytes n).map UInt8.ofNat = [c0, c1, c2, c3] ↔ 65536 ≤ n ∧ 240 + n / 262144 = c0.toNat ∧ 128 + n / 4096 % 64 = c1.toNat ∧ 128 + n / 64 % 64 = c2.toNat ∧ 128 + n % 64 = c3.toNat := by
  unfold bytes
  split
  · simp; omega
  · split
    · simp; omega
    · split
      · simp; omega
      · simp only [List.map_cons, List.map_nil, List.cons.injEq, and_true]
        rw [ofNat_inj (by omega), ofNat_inj (by omega), ofNat_inj (by omega), ofNat_inj (by omega)]
        omega

/-- The library's letter, of a text of b0 b1 b2 b3. -/
theorem tail_1 (s : ByteArray) (b0 n0 m0 : Nat) (hs : 0 < s.size) (hb : (s.get! 0).toNat = b0) (h : b0 < 192 ∨ 248 ≤ b0) : missiveref06_next.l0 10 s (b0 : Int) 1 1 = some (if b0 < 128 then ((b0 : Int), 1) else (65533, 1)) := by
  refine (show missiveref06_next.l0 10 s (b0 : Int) 1 1 = _ from l0_end 9 s (b0 : Int) 1).trans ?_
  have hlt : b0 < 256 := by rw [← hb]; exact (s.get! 0).toNat_lt
  by_cases h1 : b0 < 128
  · rw [if_pos h1]
    exact fin_yes s b0 1 (by omega) ⟨by omega, by omega, (bytes_1 b0 (s.get! 0)).2 ⟨h1, hb.symm⟩⟩
  · rw [if_neg h1]
    exact fin_no s b0 1 (by omega) (fun h => h1 ((bytes_1 b0 (s.get! 0)).1 h.2.2).1)

/-! the library's letter, by its first byte: plain numbers -/
theorem dec_2 (n b0 b1 b2 b3 : Nat) (h0 : 192 ≤ b0) (h1 : b0 < 224) (hn : 2 ≤ n) : Lib.decodeN n b0 b1 b2 b3 = if b1 / 64 = 2 ∧ 128 ≤ 64 * (b0 - 192) + b1 % 64 then (64 * (b0 - 192) + b1 % 64, 2) else (65533, 1) := by
  have e : b0 % 32 * 64 + b1 % 64 = 64 * (b0 - 192) + b1 % 64 := by omega
  unfold Lib.decodeN
  rw [if_neg (show ¬ b0 < 128 by omega)]
  by_cases v : b1 / 64 = 2
  · rw [if_pos ⟨by omega, by omega, v⟩, e]
    by_cases u : 128 ≤ 64 * (b0 - 192) + b1 % 64
    · rw [if_pos u, if_pos ⟨v, u⟩]
    · rw [if_neg u, if_neg (fun h => u h.2)]
  · rw [if_neg (fun h => v h.2.2), if_neg (fun h => v h.2.1.2), if_neg (fun h => v h.2.1.2), if_neg (fun h => v h.1)]
theorem dec_3 (n b0 b1 b2 b3 : Nat) (h0 : 224 ≤ b0) (h1 : b0 < 240) (hn : 3 ≤ n) : Lib.decodeN n b0 b1 b2 b3 = if (b1 / 64 = 2 ∧ b2 / 64 = 2) ∧ 2048 ≤ 4096 * (b0 - 224) + 64 * (b1 % 64) + b2 % 64 ∧ (4096 * (b0 - 224) + 64 * (b1 % 64) + b2 % 64 < 55296 ∨ 57344 ≤ 4096 * (b0 - 224) + 64 * (b1 % 64) + b2 % 64) then (4096 * (b0 - 224) + 64 * (b1 % 64) + b2 % 64, 3) else (65533, 1) := by
  have e : b0 % 16 * 4096 + b1 % 64 * 64 + b2 % 64 = 4096 * (b0 - 224) + 64 * (b1 % 64) + b2 % 64 := by omega
  have lt : 4096 * (b0 - 224) + 64 * (b1 % 64) + b2 % 64 ≤ 1114111 := by omega
  unfold Lib.decodeN
  rw [if_neg (show ¬ b0 < 128 by omega), if_neg (fun h => absurd h.1 (by omega))]
  by_cases v : b1 / 64 = 2 ∧ b2 / 64 = 2
  · rw [if_pos ⟨by omega, ⟨by omega, v.1⟩, ⟨by omega, v.2⟩⟩, e]
    revert lt
    generalize 4096 * (b0 - 224) + 64 * (b1 % 64) + b2 % 64 = N
    intro lt
    by_cases u : 2048 ≤ N ∧ (N < 55296 ∨ 57344 ≤ N)
    · rw [if_pos (by omega), if_pos ⟨v, u⟩]
    · rw [if_neg (by omega), if_neg (fun h => u h.2)]
  · rw [if_neg (fun h => v ⟨h.2.1.2, h.2.2.2⟩), if_neg (fun h => v ⟨h.2.1.2, h.2.2.1.2⟩), if_neg (fun h => v h.1)]
theorem dec_4 (n b0 b1 b2 b3 : Nat) (h0 : 240 ≤ b0) (h1 : b0 < 248) (hn : 4 ≤ n) : Lib.decodeN n b0 b1 b2 b3 = if (b1 / 64 = 2 ∧ b2 / 64 = 2 ∧ b3 / 64 = 2) ∧ 65536 ≤ 262144 * (b0 - 240) + 4096 * (b1 % 64) + 64 * (b2 % 64) + b3 % 64 ∧ 262144 * (b0 - 240) + 4096 * (b1 % 64) + 64 * (b2 % 64) + b3 % 64 < 1114112 then (262144 * (b0 - 240) + 4096 * (b1 % 64) + 64 * (b2 % 64) + b3 % 64, 4) else (65533, 1) := by
  have e : b0 % 8 * 262144 + b1 % 64 * 4096 + b2 % 64 * 64 + b3 % 64 = 262144 * (b0 - 240) + 4096 * (b1 % 64) + 64 * (b2 % 64) + b3 % 64 := by omega
  unfold Lib.decodeN
  rw [if_neg (show ¬ b0 < 128 by omega), if_neg (fun h => absurd h.1 (by omega)), if_neg (fun h => absurd h.1 (by omega))]
  by_cases v : b1 / 64 = 2 ∧ b2 / 64 = 2 ∧ b3 / 64 = 2
  · rw [if_pos ⟨by omega, ⟨by omega, v.1⟩, ⟨by omega, v.2.1⟩, ⟨by omega, v.2.2⟩⟩, e]
    generalize 262144 * (b0 - 240) + 4096 * (b1 % 64) + 64 * (b2 % 64) + b3 % 64 = N
    by_cases u : 65536 ≤ N ∧ N < 1114112
    · rw [if_pos (by omega), if_pos ⟨v, u⟩]
    · rw [if_neg (by omega), if_neg (fun h => u h.2)]
  · rw [if_neg (fun h => v ⟨h.2.1.2, h.2.2.1.2, h.2.2.2.2⟩), if_neg (fun h => v h.1)]
theorem dec_short (n b0 b1 b2 b3 : Nat) (h : (192 ≤ b0 ∧ b0 < 224 ∧ n < 2) ∨ (224 ≤ b0 ∧ b0 < 240 ∧ n < 3) ∨ (240 ≤ b0 ∧ b0 < 248 ∧ n < 4)) : Lib.decodeN n b0 b1 b2 b3 = (65533, 1) := by
  unfold Lib.decodeN
  rw [if_neg (show ¬ b0 < 128 by omega), if_neg (fun e => absurd e.1 (by have := e.2.1; omega)), if_neg (fun e => absurd e.1 (by have := e.2.2.1; omega)), if_neg (fun e => absurd e.1 (by have := e.2.2.2.1; omega))]
theorem dec_1 (n b0 b1 b2 b3 : Nat) (h : b0 < 192 ∨ 248 ≤ b0) (hb : b0 < 256) : Lib.decodeN n b0 b1 b2 b3 = if b0 < 128 then (b0, 1) else (65533, 1) := by
  unfold Lib.decodeN
  by_cases h1 : b0 < 128
  · rw [if_pos h1, if_pos h1]
  · rw [if_neg h1, if_neg h1, if_neg (fun e => absurd e.1 (by omega)), if_neg (fun e => absurd e.1 (by omega)), if_neg (fun e => absurd e.1 (by omega))]

theorem back_2 (b0 b1 : Nat) (h0 : 192 ≤ b0) (h1 : b0 < 224) (hb1 : b1 < 256) : (128 ≤ 64 * (b0 - 192) + b1 % 64 ∧ 64 * (b0 - 192) + b1 % 64 < 2048 ∧ 192 + (64 * (b0 - 192) + b1 % 64) / 64 = b0 ∧ 128 + (64 * (b0 - 192) + b1 % 64) % 64 = b1) ↔ (b1 / 64 = 2 ∧ 128 ≤ 64 * (b0 - 192) + b1 % 64) := by
  have e1 : (64 * (b0 - 192) + b1 % 64) / 64 = b0 - 192 := by omega
  have e2 : (64 * (b0 - 192) + b1 % 64) % 64 = b1 % 64 := by omega
  rw [e1, e2]
  omega
theorem back_3 (b0 b1 b2 : Nat) (h0 : 224 ≤ b0) (h1 : b0 < 240) (hb1 : b1 < 256) (hb2 : b2 < 256) : (2048 ≤ 4096 * (b0 - 224) + 64 * (b1 % 64) + b2 % 64 ∧ 4096 * (b0 - 224) + 64 * (b1 % 64) + b2 % 64 < 65536 ∧ 224 + (4096 * (b0 - 224) + 64 * (b1 % 64) + b2 % 64) / 4096 = b0 ∧ 128 + (4096 * (b0 - 224) + 64 * (b1 % 64) + b2 % 64) / 64 % 64 = b1 ∧ 128 + (4096 * (b0 - 224) + 64 * (b1 % 64) + b2 % 64) % 64 = b2) ↔ ((b1 / 64 = 2 ∧ b2 / 64 = 2) ∧ 2048 ≤ 4096 * (b0 - 224) + 64 * (b1 % 64) + b2 % 64) := by
  have e1 : (4096 * (b0 - 224) + 64 * (b1 % 64) + b2 % 64) / 4096 = b0 - 224 := by omega
  have e2 : (4096 * (b0 - 224) + 64 * (b1 % 64) + b2 % 64) % 64 = b2 % 64 := by omega
  have e3 : (4096 * (b0 - 224) + 64 * (b1 % 64) + b2 % 64) / 64 % 64 = b1 % 64 := by omega
  have e4 : 4096 * (b0 - 224) + 64 * (b1 % 64) + b2 % 64 < 65536 := by omega
  rw [e1, e2, e3]
  revert e4
  generalize 4096 * (b0 - 224) + 64 * (b1 % 64) + b2 % 64 = N
  intro e4
  omega
theorem back_4 (b0 b1 b2 b3 : Nat) (h0 : 240 ≤ b0) (h1 : b0 < 248) (hb1 : b1 < 256) (hb2 : b2 < 256) (hb3 : b3 < 256) : (65536 ≤ 262144 * (b0 - 240) + 4096 * (b1 % 64) + 64 * (b2 % 64) + b3 % 64 ∧ 240 + (262144 * (b0 - 240) + 4096 * (b1 % 64) + 64 * (b2 % 64) + b3 % 64) / 262144 = b0 ∧ 128 + (262144 * (b0 - 240) + 4096 * (b1 % 64) + 64 * (b2 % 64) + b3 % 64) / 4096 % 64 = b1 ∧ 128 + (262144 * (b0 - 240) + 4096 * (b1 % 64) + 64 * (b2 % 64) + b3 % 64) / 64 % 64 = b2 ∧ 128 + (262144 * (b0 - 240) + 4096 * (b1 % 64) + 64 * (b2 % 64) + b3 % 64) % 64 = b3) ↔ ((b1 / 64 = 2 ∧ b2 / 64 = 2 ∧ b3 / 64 = 2) ∧ 65536 ≤ 262144 * (b0 - 240) + 4096 * (b1 % 64) + 64 * (b2 % 64) + b3 % 64) := by
  have e1 : (262144 * (b0 - 240) + 4096 * (b1 % 64) + 64 * (b2 % 64) + b3 % 64) / 262144 = b0 - 240 := by omega
  have e2 : (262144 * (b0 - 240) + 4096 * (b1 % 64) + 64 * (b2 % 64) + b3 % 64) % 64 = b3 % 64 := by omega
  have e3 : (262144 * (b0 - 240) + 4096 * (b1 % 64) + 64 * (b2 % 64) + b3 % 64) / 64 % 64 = b2 % 64 := by omega
  have e4 : (262144 * (b0 - 240) + 4096 * (b1 % 64) + 64 * (b2 % 64) + b3 % 64) / 4096 % 64 = b1 % 64 := by omega
  rw [e1, e2, e3, e4]
  generalize 262144 * (b0 - 240) + 4096 * (b1 % 64) + 64 * (b2 % 64) + b3 % 64 = N
  omega

theorem pair_yes {c : Prop} [Decidable c] (h : c) (n m : Nat) : some ((n : Int), (m : Int)) = some ((((if c then (n, m) else (65533, 1)) : Nat × Nat).1 : Int), (((if c then (n, m) else (65533, 1)) : Nat × Nat).2 : Int)) := by rw [if_pos h]
theorem pair_no {c : Prop} [Decidable c] (h : ¬ c) (n m : Nat) : some ((65533 : Int), (1 : Int)) = some ((((if c then (n, m) else (65533, 1)) : Nat × Nat).1 : Int), (((if c then (n, m) else (65533, 1)) : Nat × Nat).2 : Int)) := by rw [if_neg h]; rfl

theorem tail_2 (s : ByteArray) (b0 b1 b2 b3 : Nat) (hs : 2 ≤ s.size) (e0 : (s.get! 0).toNat = b0) (e1 : (s.get! 1).toNat = b1) (h0 : 192 ≤ b0) (h1 : b0 < 224) : missiveref06_next.l0 10 s ((b0 - 192 : Nat) : Int) 2 1 = some (((Lib.decodeN s.size b0 b1 b2 b3).1 : Int), ((Lib.decodeN s.size b0 b1 b2 b3).2 : Int)) := by
  have hb1 : b1 < 256 := by rw [← e1]; exact (s.get! 1).toNat_lt
  refine (show missiveref06_next.l0 10 s ((b0 - 192 : Nat) : Int) 2 1 = _ from l0_step 9 s ((b0 - 192 : Nat) : Int) 2 1 (by omega) (by omega) (by omega) (by omega) (by omega)).trans ?_
  rw [show (64 * ((b0 - 192 : Nat) : Int) + ((s.get! 1).toNat % 64 : Nat)) = ((64 * (b0 - 192) + b1 % 64 : Nat) : Int) by rw [e1]; omega, dec_2 s.size b0 b1 b2 b3 h0 h1 hs]
  refine (l0_end 8 s _ 2).trans ?_
  have B := bytes_2 (64 * (b0 - 192) + b1 % 64) (s.get! 0) (s.get! 1)
  rw [e0, e1, back_2 b0 b1 h0 h1 hb1] at B
  have lt : 64 * (b0 - 192) + b1 % 64 < 55296 := by omega
  by_cases c : b1 / 64 = 2 ∧ 128 ≤ 64 * (b0 - 192) + b1 % 64
  · exact (fin_yes s _ 2 (by omega) ⟨.inl lt, by omega, B.2 c⟩).trans (pair_yes c _ _)
  · exact (fin_no s _ 2 (by omega) (fun h => c (B.1 h.2.2))).trans (pair_no c _ _)

theorem tail_3 (s : ByteArray) (b0 b1 b2 b3 : Nat) (hs : 3 ≤ s.size) (e0 : (s.get! 0).toNat = b0) (e1 : (s.get! 1).toNat = b1) (e2 : (s.get! 2).toNat = b2) (h0 : 224 ≤ b0) (h1 : b0 < 240) : missiveref06_next.l0 10 s ((b0 - 224 : Nat) : Int) 3 1 = some (((Lib.decodeN s.size b0 b1 b2 b3).1 : Int), ((Lib.decodeN s.size b0 b1 b2 b3).2 : Int)) := by
  have hb1 : b1 < 256 := by rw [← e1]; exact (s.get! 1).toNat_lt
  have hb2 : b2 < 256 := by rw [← e2]; exact (s.get! 2).toNat_lt
  refine (show missiveref06_next.l0 10 s ((b0 - 224 : Nat) : Int) 3 1 = _ from l0_step 9 s ((b0 - 224 : Nat) : Int) 3 1 (by omega) (by omega) (by omega) (by omega) (by omega)).trans ?_
  rw [show (64 * ((b0 - 224 : Nat) : Int) + ((s.get! 1).toNat % 64 : Nat)) = ((64 * (b0 - 224) + b1 % 64 : Nat) : Int) by rw [e1]; omega]
  refine (l0_step 8 s _ 3 2 (by omega) (by omega) (by omega) (by omega) (by omega)).trans ?_
  rw [show (64 * ((64 * (b0 - 224) + b1 % 64 : Nat) : Int) + ((s.get! 2).toNat % 64 : Nat)) = ((4096 * (b0 - 224) + 64 * (b1 % 64) + b2 % 64 : Nat) : Int) by rw [e2]; omega, dec_3 s.size b0 b1 b2 b3 h0 h1 hs]
  refine (l0_end 7 s _ 3).trans ?_
  have B := bytes_3 (4096 * (b0 - 224) + 64 * (b1 % 64) + b2 % 64) (s.get! 0) (s.get! 1) (s.get! 2)
  rw [e0, e1, e2, back_3 b0 b1 b2 h0 h1 hb1 hb2] at B
  have lt : 4096 * (b0 - 224) + 64 * (b1 % 64) + b2 % 64 < 1114112 := by omega
  revert B lt
  generalize 4096 * (b0 - 224) + 64 * (b1 % 64) + b2 % 64 = N
  intro B lt
  by_cases c : (b1 / 64 = 2 ∧ b2 / 64 = 2) ∧ 2048 ≤ N ∧ (N < 55296 ∨ 57344 ≤ N)
  · exact (fin_yes s N 3 hs ⟨c.2.2, lt, B.2 ⟨c.1, c.2.1⟩⟩).trans (pair_yes c _ _)
  · exact (fin_no s N 3 hs (fun h => c ⟨(B.1 h.2.2).1, (B.1 h.2.2).2, h.1⟩)).trans (pair_no c _ _)

theorem tail_4 (s : ByteArray) (b0 b1 b2 b3 : Nat) (hs : 4 ≤ s.size) (e0 : (s.get! 0).toNat = b0) (e1 : (s.get! 1).toNat = b1) (e2 : (s.get! 2).toNat = b2) (e3 : (s.get! 3).toNat = b3) (h0 : 240 ≤ b0) (h1 : b0 < 248) : missiveref06_next.l0 10 s ((b0 - 240 : Nat) : Int) 4 1 = some (((Lib.decodeN s.size b0 b1 b2 b3).1 : Int), ((Lib.decodeN s.size b0 b1 b2 b3).2 : Int)) := by
  have hb1 : b1 < 256 := by rw [← e1]; exact (s.get! 1).toNat_lt
  have hb2 : b2 < 256 := by rw [← e2]; exact (s.get! 2).toNat_lt
  have hb3 : b3 < 256 := by rw [← e3]; exact (s.get! 3).toNat_lt
  refine (show missiveref06_next.l0 10 s ((b0 - 240 : Nat) : Int) 4 1 = _ from l0_step 9 s ((b0 - 240 : Nat) : Int) 4 1 (by omega) (by omega) (by omega) (by omega) (by omega)).trans ?_
  rw [show (64 * ((b0 - 240 : Nat) : Int) + ((s.get! 1).toNat % 64 : Nat)) = ((64 * (b0 - 240) + b1 % 64 : Nat) : Int) by rw [e1]; omega]
  refine (l0_step 8 s _ 4 2 (by omega) (by omega) (by omega) (by omega) (by omega)).trans ?_
  rw [show (64 * ((64 * (b0 - 240) + b1 % 64 : Nat) : Int) + ((s.get! 2).toNat % 64 : Nat)) = ((4096 * (b0 - 240) + 64 * (b1 % 64) + b2 % 64 : Nat) : Int) by rw [e2]; omega]
  refine (l0_step 7 s _ 4 3 (by omega) (by omega) (by omega) (by omega) (by omega)).trans ?_
  rw [show (64 * ((4096 * (b0 - 240) + 64 * (b1 % 64) + b2 % 64 : Nat) : Int) + ((s.get! 3).toNat % 64 : Nat)) = ((262144 * (b0 - 240) + 4096 * (b1 % 64) + 64 * (b2 % 64) + b3 % 64 : Nat) : Int) by rw [e3]; omega, dec_4 s.size b0 b1 b2 b3 h0 h1 hs]
  refine (l0_end 6 s _ 4).trans ?_
  have B := fun hN => bytes_4 (262144 * (b0 - 240) + 4096 * (b1 % 64) + 64 * (b2 % 64) + b3 % 64) hN (s.get! 0) (s.get! 1) (s.get! 2) (s.get! 3)
  rw [e0, e1, e2, e3, back_4 b0 b1 b2 b3 h0 h1 hb1 hb2 hb3] at B
  revert B
  generalize 262144 * (b0 - 240) + 4096 * (b1 % 64) + 64 * (b2 % 64) + b3 % 64 = N
  intro B
  by_cases c : (b1 / 64 = 2 ∧ b2 / 64 = 2 ∧ b3 / 64 = 2) ∧ 65536 ≤ N ∧ N < 1114112
  · exact (fin_yes s N 4 hs ⟨.inr (by have := c.2.1; omega), c.2.2, (B c.2.2).2 ⟨c.1, c.2.1⟩⟩).trans (pair_yes c _ _)
  · exact (fin_no s N 4 hs (fun h => c ⟨((B h.2.1).1 h.2.2).1, ((B h.2.1).1 h.2.2).2, h.2.1⟩)).trans (pair_no c _ _)

theorem head_1 (s : ByteArray) (b0 : Nat) (h0 : bt s 0 = (b0 : Int)) (ps : (0 : Int) < (s.size : Int)) (hb : b0 < 256) (c1 : b0 < 192 ∨ 248 ≤ b0) : missiveref06_next.f 16 s = missiveref06_next.l0 10 s (b0 : Int) 1 1 := by
  have w0 : wrap32 ((b0 : Nat) : Int) = (b0 : Int) := w32 _ (by omega) (by omega)
  have n1 : ¬ ((1 : Int) > (s.size : Int)) := by omega
  unfold missiveref06_next.f
  rw [if_pos ps, h0]
  rcases c1 with c1 | c1
  · rw [if_neg (by omega)]
    have n2 : ¬ ((b0 : Int) ≥ 224) := by omega
    have n3 : ¬ ((b0 : Int) ≥ 240) := by omega
    simp only [missiveref06_next.j0, missiveref06_next.j1, missiveref06_next.j2, missiveref06_next.j3, missiveref06_next.j4, missiveref06_next.j5, h0, w0, ps, n1, n2, n3, if_true, if_false, Bool.false_eq_true]
  · rw [if_pos (by omega)]
    have n2 : (b0 : Int) ≥ 224 := by omega
    have n3 : (b0 : Int) ≥ 240 := by omega
    have d1 : decide ((b0 : Int) < 224) = false := decide_eq_false (by omega)
    have d2 : decide ((b0 : Int) < 240) = false := decide_eq_false (by omega)
    have d3 : decide ((b0 : Int) < 248) = false := decide_eq_false (by omega)
    simp only [missiveref06_next.j0, missiveref06_next.j1, missiveref06_next.j2, missiveref06_next.j3, missiveref06_next.j4, missiveref06_next.j5, h0, w0, ps, n1, n2, n3, d1, d2, d3, if_true, if_false, Bool.false_eq_true]
theorem head_2 (s : ByteArray) (b0 : Nat) (h0 : bt s 0 = (b0 : Int)) (ps : (0 : Int) < (s.size : Int)) (c1 : 192 ≤ b0) (c2 : b0 < 224) : missiveref06_next.f 16 s = if (2 : Int) > (s.size : Int) then some (65533, 1) else missiveref06_next.l0 10 s ((b0 - 192 : Nat) : Int) 2 1 := by
  have w0 : wrap32 ((b0 : Nat) : Int) = (b0 : Int) := w32 _ (by omega) (by omega)
  have w1 : wrap32 ((b0 : Int) - 192) = ((b0 - 192 : Nat) : Int) := by rw [w32 _ (by omega) (by omega)]; omega
  have n2 : ¬ ((b0 : Int) ≥ 224) := by omega
  have n3 : ¬ ((b0 : Int) ≥ 240) := by omega
  have d1 : decide ((b0 : Int) < 224) = true := decide_eq_true (by omega)
  unfold missiveref06_next.f
  rw [if_pos ps, h0, if_pos (by omega)]
  simp only [missiveref06_next.j0, missiveref06_next.j1, missiveref06_next.j2, missiveref06_next.j3, missiveref06_next.j4, missiveref06_next.j5, h0, w0, w1, ps, n2, n3, d1, if_true, if_false, Bool.false_eq_true]
theorem head_3 (s : ByteArray) (b0 : Nat) (h0 : bt s 0 = (b0 : Int)) (ps : (0 : Int) < (s.size : Int)) (c1 : 224 ≤ b0) (c2 : b0 < 240) : missiveref06_next.f 16 s = if (3 : Int) > (s.size : Int) then some (65533, 1) else missiveref06_next.l0 10 s ((b0 - 224 : Nat) : Int) 3 1 := by
  have w0 : wrap32 ((b0 : Nat) : Int) = (b0 : Int) := w32 _ (by omega) (by omega)
  have w1 : wrap32 ((b0 : Int) - 224) = ((b0 - 224 : Nat) : Int) := by rw [w32 _ (by omega) (by omega)]; omega
  have n2 : (b0 : Int) ≥ 224 := by omega
  have n3 : ¬ ((b0 : Int) ≥ 240) := by omega
  have d1 : decide ((b0 : Int) < 224) = false := decide_eq_false (by omega)
  have d2 : decide ((b0 : Int) < 240) = true := decide_eq_true (by omega)
  unfold missiveref06_next.f
  rw [if_pos ps, h0, if_pos (by omega)]
  simp only [missiveref06_next.j0, missiveref06_next.j1, missiveref06_next.j2, missiveref06_next.j3, missiveref06_next.j4, missiveref06_next.j5, h0, w0, w1, ps, n2, n3, d1, d2, if_true, if_false, Bool.false_eq_true]
theorem head_4 (s : ByteArray) (b0 : Nat) (h0 : bt s 0 = (b0 : Int)) (ps : (0 : Int) < (s.size : Int)) (c1 : 240 ≤ b0) (c2 : b0 < 248) : missiveref06_next.f 16 s = if (4 : Int) > (s.size : Int) then some (65533, 1) else missiveref06_next.l0 10 s ((b0 - 240 : Nat) : Int) 4 1 := by
  have w0 : wrap32 ((b0 : Nat) : Int) = (b0 : Int) := w32 _ (by omega) (by omega)
  have w1 : wrap32 ((b0 : Int) - 240) = ((b0 - 240 : Nat) : Int) := by rw [w32 _ (by omega) (by omega)]; omega
  have n2 : (b0 : Int) ≥ 224 := by omega
  have n3 : (b0 : Int) ≥ 240 := by omega
  have d1 : decide ((b0 : Int) < 224) = false := decide_eq_false (by omega)
  have d2 : decide ((b0 : Int) < 240) = false := decide_eq_false (by omega)
  have d3 : decide ((b0 : Int) < 248) = true := decide_eq_true (by omega)
  unfold missiveref06_next.f
  rw [if_pos ps, h0, if_pos (by omega)]
  simp only [missiveref06_next.j0, missiveref06_next.j1, missiveref06_next.j2, missiveref06_next.j3, missiveref06_next.j4, missiveref06_next.j5, h0, w0, w1, ps, n2, n3, d1, d2, d3, if_true, if_false, Bool.false_eq_true]

/-- The reference's next letter is the library's. -/
theorem next_eq (s : ByteArray) (hs : 0 < s.size) : missiveref06_next.f 16 s = some (((Lib.decodeGo s).1 : Int), ((Lib.decodeGo s).2 : Int)) := by
  obtain ⟨b0, e0⟩ : ∃ b, (s.get! 0).toNat = b := ⟨_, rfl⟩
  obtain ⟨b1, e1⟩ : ∃ b, (s.get! 1).toNat = b := ⟨_, rfl⟩
  obtain ⟨b2, e2⟩ : ∃ b, (s.get! 2).toNat = b := ⟨_, rfl⟩
  obtain ⟨b3, e3⟩ : ∃ b, (s.get! 3).toNat = b := ⟨_, rfl⟩
  have hb0 : b0 < 256 := by rw [← e0]; exact (s.get! 0).toNat_lt
  have h0 : bt s 0 = (b0 : Int) := by rw [← e0]; exact bt_get s 0 hs
  have hd : Lib.decodeGo s = Lib.decodeN s.size b0 b1 b2 b3 := by
    unfold Lib.decodeGo
    rw [if_neg (by omega), Lib.decode_at, ← e0, ← e1, ← e2, ← e3]
    rfl
  have ps : (0 : Int) < (s.size : Int) := by omega
  rw [hd]
  by_cases c1 : b0 < 192 ∨ 248 ≤ b0
  · rw [head_1 s b0 h0 ps hb0 c1, tail_1 s b0 0 0 hs e0 c1, dec_1 s.size b0 b1 b2 b3 c1 hb0]
    by_cases h1 : b0 < 128
    · rw [if_pos h1, if_pos h1]
      rfl
    · rw [if_neg h1, if_neg h1]
      rfl
  · by_cases c2 : b0 < 224
    · rw [head_2 s b0 h0 ps (by omega) c2]
      by_cases c3 : s.size < 2
      · rw [if_pos (by omega), dec_short s.size b0 b1 b2 b3 (.inl ⟨by omega, c2, c3⟩)]
        rfl
      · rw [if_neg (by omega)]
        exact tail_2 s b0 b1 b2 b3 (by omega) e0 e1 (by omega) c2
    · by_cases c4 : b0 < 240
      · rw [head_3 s b0 h0 ps (by omega) c4]
        by_cases c3 : s.size < 3
        · rw [if_pos (by omega), dec_short s.size b0 b1 b2 b3 (.inr (.inl ⟨by omega, c4, c3⟩))]
          rfl
        · rw [if_neg (by omega)]
          exact tail_3 s b0 b1 b2 b3 (by omega) e0 e1 e2 (by omega) c4
      · rw [head_4 s b0 h0 ps (by omega) (by omega)]
        by_cases c3 : s.size < 4
        · rw [if_pos (by omega), dec_short s.size b0 b1 b2 b3 (.inr (.inr ⟨by omega, by omega, c3⟩))]
          rfl
        · rw [if_neg (by omega)]
          exact tail_4 s b0 b1 b2 b3 (by omega) e0 e1 e2 e3 (by omega) (by omega)

theorem ev_next (s : ByteArray) (hs : 0 < s.size) : Ev (fun k => missiveref06_next.f k s) (((Lib.decodeGo s).1 : Int), ((Lib.decodeGo s).2 : Int)) := Ev.of (missiveref06_next.mono s) (next_eq s hs)

theorem ev_RefLetters_l : ∀ (m : Nat) (s : ByteArray) (o : List Int), s.size ≤ m → m + o.length < 35184372088832 → Ev (fun k => missiveref06_Letters.l0 k s o) (o ++ lettersF m s)
  | 0, s, o, hs, _ => by
    have h0 : s.size = 0 := by omega
    have e : s.toList = [] := List.isEmpty_iff.1 ((empty_iff s).2 h0)
    refine Ev.step (fun k => ?_) (Ev.now _)
    simp only [missiveref06_Letters.l0]
    rw [if_pos e]
    show _ = some (o ++ [])
    rw [List.append_nil]
  | m + 1, s, o, hs, hl => by
    by_cases h0 : s.size = 0
    · have e : s.toList = [] := List.isEmpty_iff.1 ((empty_iff s).2 h0)
      refine Ev.step (fun k => ?_) (Ev.now _)
      simp only [missiveref06_Letters.l0]
      rw [if_pos e]
      unfold lettersF
      rw [if_pos ((empty_iff s).2 h0), List.append_nil]
    · have hne : ¬ s.toList.isEmpty = true := fun h => h0 ((empty_iff s).1 h)
      have e : ¬ s.toList = [] := fun h => hne (by rw [h]; rfl)
      have p1 := decode_pos s (by omega)
      have p2 := Lib.decodeGo_le_size s
      unfold lettersF
      rw [if_neg hne]
      have ih := ev_RefLetters_l m (s.extract (Lib.decodeGo s).2 s.size) (o ++ [((Lib.decodeGo s).1 : Int)]) (by rw [ByteArray.size_extract]; omega) (by rw [List.length_append, List.length_singleton]; omega)
      rw [List.append_assoc, List.singleton_append] at ih
      refine Ev.step (f := fun k => (missiveref06_next.f k s).bind fun bt203 => (if o.length < 35184372088832 then (if 0 ≤ bt203.2 then (if bt203.2 ≤ (s.size : Int) then (missiveref06_Letters.l0 k (s.extract (bt203.2 : Int).toNat s.size) (o ++ [bt203.1])) else (none)) else (none)) else (none))) (fun k => ?_) (Ev.bind (ev_next s (by omega)) ?_)
      · simp only [missiveref06_Letters.l0]
        rw [if_neg e]
      · refine Ev.congr (fun k => ?_) ih
        simp only
        rw [if_pos (by omega), if_pos (by omega), if_pos (by omega), Int.toNat_natCast]

theorem ev_RefLetters (s : ByteArray) (hs : s.size < 35184372088832) : Ev (fun k => missiveref06_Letters.f k s) (lettersF s.size s) := by
  have h := ev_RefLetters_l s.size s [] (Nat.le_refl _) (by rw [List.length_nil]; omega)
  rw [List.nil_append] at h
  exact h

theorem lettersF_length : ∀ (m : Nat) (s : ByteArray), (lettersF m s).length ≤ m
  | 0, _ => Nat.le_refl _
  | m + 1, s => by
    unfold lettersF
    split
    · exact Nat.zero_le _
    · have := lettersF_length m (s.extract (Lib.decodeGo s).2 s.size)
      rw [List.length_cons]
      omega

theorem letters_pure (a0 : Int) (l1 : List Int) (a2 : ByteArray) (h1 : l1.length ≤ 4194304) (h2 : a2.size ≤ 4194304) : ∃ k, missivelaw07_FoldLetters.f k a0 l1 a2 = some true := by
  have hll := lettersF_length a2.size a2
  obtain ⟨k1, h1'⟩ := ev_lives
  obtain ⟨k2, h2'⟩ := ev_One a0
  obtain ⟨k3, h3'⟩ := ev_RefOne a0
  obtain ⟨k4, h4'⟩ := ev_Fold l1 (by omega)
  obtain ⟨k5, h5'⟩ := ev_RefFold l1 (by omega)
  obtain ⟨k6, h6'⟩ := ev_same (l1.map oneF) (by rw [List.length_map]; omega)
  obtain ⟨k7, h7'⟩ := ev_Fold (lettersF a2.size a2) (by omega)
  obtain ⟨k8, h8'⟩ := ev_RefLetters a2 (by omega)
  obtain ⟨k9, h9'⟩ := ev_RefFold (lettersF a2.size a2) (by omega)
  obtain ⟨k10, h10'⟩ := ev_same ((lettersF a2.size a2).map oneF) (by rw [List.length_map]; omega)
  refine ⟨k1 + k2 + k3 + k4 + k5 + k6 + k7 + k8 + k9 + k10, ?_⟩
  generalize hk : k1 + k2 + k3 + k4 + k5 + k6 + k7 + k8 + k9 + k10 = k
  have h1 := h1' k (by omega)
  have h2 := h2' k (by omega)
  have h3 := h3' k (by omega)
  have h4 := h4' k (by omega)
  have h5 := h5' k (by omega)
  have h6 := h6' k (by omega)
  have h7 := h7' k (by omega)
  have h8 := h8' k (by omega)
  have h9 := h9' k (by omega)
  have h10 := h10' k (by omega)
  simp only at h1 h2 h3 h4 h5 h6 h7 h8 h9 h10
  have hT : fold_Text.f k a2 = some ((lettersF a2.size a2).map oneF) := by
    unfold fold_Text.f runes_Letters.f
    rw [if_pos (by omega), Option.bind_some, h7]
    rfl
  have hR : missiveref07_Text.f k a2 = some ((lettersF a2.size a2).map oneF) := by
    unfold missiveref07_Text.f
    rw [h8, Option.bind_some, h9]
    rfl
  unfold missivelaw07_FoldLetters.f
  rw [h1, Option.bind_some, if_pos rfl, h2, Option.bind_some, h3, Option.bind_some, if_pos rfl, h4, Option.bind_some, h5, Option.bind_some, h6, Option.bind_some, if_pos rfl, hT, Option.bind_some, hR, Option.bind_some, h10]
  rfl
end Go.Proofs.YtfkckhliffbcjaaDoor.FoldY
