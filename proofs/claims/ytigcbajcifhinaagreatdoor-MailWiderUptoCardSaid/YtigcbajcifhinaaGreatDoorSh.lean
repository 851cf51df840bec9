/- What the proof of LawMailWider builds upon, part 8: contracts of the program's functions, by walks through their code. -/
import Derived.Lib.MapLaws
import Derived.Test.YtigcbajcifhinaaGreatDoorSg
set_option maxRecDepth 100000
set_option maxHeartbeats 8000000
set_option linter.unusedVariables false
set_option linter.unusedSimpArgs false
namespace Go.Proofs.YtigcbajcifhinaaGreatDoor.V
open Go.RowKit Go.Proofs.YtigcbajcifhinaaGreatDoorW.PrintWords Go.Proofs.YtigcbajcifhinaaGreatDoorW.PrintLast Go.Proofs.YtigcbajcifhinaaGreatDoorW.PrintMore
attribute [local go_sem] max2_int min2_int max_two min_two max_three min_three max_four min_four
def missivelaw12_MailFolded.f (k : Nat) (a0 : ByteArray) (l1 : List Int) : Option (Bool) := (missivelaw12_lives.f k).bind fun t426 => (if t426 = true then ((mail_Read.f k a0).bind fun bt427 => ((mail_What.f k l1).bind fun t440 => ((fold_Fold.f k l1).bind fun t441 => ((mail_What.f k t441).bind fun t444 => ((runes_Letters.f t440).bind fun t445 => ((mail_What.f k t445).bind fun t448 => (if t440.toList = t444.toList then (if t448.toList = t440.toList then ((mail_InText.f k bt427.1 bt427.2.1 bt427.2.2.1 bt427.2.2.2.1 bt427.2.2.2.2.1 bt427.2.2.2.2.2 t440).bind fun t449 => ((mail_InText.f k bt427.1 bt427.2.1 bt427.2.2.1 bt427.2.2.2.1 bt427.2.2.2.2.1 bt427.2.2.2.2.2 t448).bind fun t450 => (some (t449 == t450)))) else (some false)) else (some false)))))))) else (some false))
end Go.Proofs.YtigcbajcifhinaaGreatDoor.V
namespace Go.Proofs.YtigcbajcifhinaaGreatDoor.Tot
open Go.RowKit Go.Proofs.YtigcbajcifhinaaGreatDoor.V Go.Proofs.YtigcbajcifhinaaGreatDoorW.PrintWords
def EvP {α : Type} (g : Nat → Option α) (P : α → Prop) : Prop := ∃ r, Ev g r ∧ P r
theorem EvP.now {α : Type} {P : α → Prop} (r : α) (h : P r) : EvP (fun _ => some r) P := ⟨r, Ev.now r, h⟩
theorem EvP.cst {α : Type} {P : α → Prop} {x : Option α} {r : α} (e : x = some r) (h : P r) : EvP (fun _ => x) P := ⟨r, e ▸ Ev.now r, h⟩
theorem EvP.bind {α β : Type} {g : Nat → Option α} {f : Nat → α → Option β} {P : α → Prop} {Q : β → Prop} (h : EvP g P) (k : ∀ a, P a → EvP (fun n => f n a) Q) : EvP (fun n => (g n).bind (f n)) Q := by
 obtain ⟨a, ha, hp⟩ := h
 obtain ⟨b, hb, hq⟩ := k a hp
 exact ⟨b, Ev.bind ha hb, hq⟩
theorem EvP.ite {α : Type} {c : Prop} [Decidable c] {f g : Nat → Option α} {Q : α → Prop} (h1 : c → EvP f Q) (h2 : ¬c → EvP g Q) : EvP (fun k => if c then f k else g k) Q := by
 by_cases h : c
 · simpa only [if_pos h] using h1 h
 · simpa only [if_neg h] using h2 h
theorem EvP.yes {α : Type} {c : Prop} [Decidable c] {f g : Nat → Option α} {Q : α → Prop} (h : c) (h1 : EvP f Q) : EvP (fun k => if c then f k else g k) Q := by simpa only [if_pos h] using h1
theorem EvP.not {α : Type} {c : Prop} [Decidable c] {f g : Nat → Option α} {Q : α → Prop} (h : ¬c) (h1 : EvP g Q) : EvP (fun k => if c then f k else g k) Q := by simpa only [if_neg h] using h1
theorem EvP.step {α : Type} {g f : Nat → Option α} {P : α → Prop} (h : ∀ k, g (k + 1) = f k) (k : EvP f P) : EvP g P := by
 obtain ⟨r, hr, hp⟩ := k
 exact ⟨r, Ev.step h hr, hp⟩
theorem EvP.imp {α : Type} {g : Nat → Option α} {P Q : α → Prop} (h : EvP g P) (i : ∀ r, P r → Q r) : EvP g Q := by
 obtain ⟨r, hr, hp⟩ := h
 exact ⟨r, hr, i r hp⟩
theorem Ev.p {α : Type} {g : Nat → Option α} {r : α} (h : Ev g r) : EvP g (fun x => x = r) := ⟨r, h, rfl⟩
theorem EvP.ev {α : Type} {g : Nat → Option α} {r : α} (h : EvP g (fun x => x = r)) : Ev g r := by
 obtain ⟨x, hx, rfl⟩ := h
 exact hx
theorem EvP.none {α : Type} {g : Nat → Option α} {P : α → Prop} (h : False) : EvP g P := h.elim
theorem wrap64_id (n : Int) (h1 : -9223372036854775808 ≤ n) (h2 : n ≤ 9223372036854775807) : wrap64 n = n := by unfold wrap64; omega
theorem bits_one (x : Int) : bits .and .i32 x 1 ≠ -1 := by
 have h : ((BitVec.ofInt 32 x) &&& (BitVec.ofInt 32 1)).toNat ≤ 1 := by
  rw [BitVec.toNat_and]
  exact Nat.le_trans Nat.and_le_right (by decide)
 show IntKind.i32.wrap ((((BitVec.ofInt 32 x) &&& (BitVec.ofInt 32 1)).toNat : Nat) : Int) ≠ -1
 revert h
 generalize ((BitVec.ofInt 32 x) &&& (BitVec.ofInt 32 1)).toNat = m
 intro h
 have : m = 0 ∨ m = 1 := by omega
 rcases this with rfl | rfl <;> decide
def oneF (n : Int) : Int := (fold_One.f 10 n).getD n
theorem one_small : ((List.range 8500).all fun m => match fold_One.f 10 (m : Int) with
  | some r => fold_One.f 10 r == some r
  | none => false) = true := by decide +kernel
theorem one_low (n : Int) (h : n < 0) : fold_One.f 10 n = some n := by
 have hb := bits_one n
 have e3 : (n == 930) = false := beq_false_of_ne (by omega)
 unfold fold_One.f
 rw [if_neg (by omega), e3]
 simp only [fold_One.j0, fold_One.j1, fold_One.j2, fold_One.j3, fold_One.j4, fold_pairs.f, fold_pairs.j0, fold_pairs.j1, fold_pairs.j2, fold_odd.f, Bool.false_eq_true, if_false]
 rw [if_neg (by omega), if_neg (by omega), if_neg (by omega), if_neg (by omega), if_neg (by omega), if_neg (by omega), if_neg (by omega), if_neg (by omega), if_neg (by omega), if_neg (by omega)]
 simp only [Option.bind_some]
 rw [if_neg (fun e => hb e.symm), if_neg (by omega), if_neg (by omega), if_neg (by omega), if_neg (by omega), if_neg (by omega), if_neg (by omega), if_neg (by omega), if_neg (by omega)]
 rfl
theorem one_high (n : Int) (h : 8500 ≤ n) : fold_One.f 10 n = some n := by
 have hb := bits_one n
 have e3 : (n == 930) = false := beq_false_of_ne (by omega)
 have d : ∀ c : Int, c < 8500 → decide (n ≤ c) = false := fun c hc => decide_eq_false (by omega)
 unfold fold_One.f
 rw [if_neg (by omega), e3]
 simp only [fold_One.j0, fold_One.j1, fold_One.j2, fold_One.j3, fold_One.j4, fold_pairs.f, fold_pairs.j0, fold_pairs.j1, fold_pairs.j2, fold_odd.f, Bool.false_eq_true, if_false, d 90 (by decide), d 222 (by decide), d 937 (by decide), d 1071 (by decide), d 1039 (by decide), d 303 (by decide), d 311 (by decide), d 375 (by decide), d 328 (by decide)]
 have g : ∀ c : Int, c < 8500 → (n ≥ c) = True := fun c hc => eq_true (by omega)
 have l : ∀ c : Int, c < 8500 → (n ≤ c) = False := fun c hc => eq_false (by omega)
 simp only [g 65 (by decide), g 192 (by decide), g 913 (by decide), g 1040 (by decide), g 1024 (by decide), g 256 (by decide), g 306 (by decide), g 330 (by decide), g 313 (by decide), g 377 (by decide), l 937 (by decide), l 311 (by decide), l 382 (by decide), if_true, if_false, Option.bind_some]
 rw [if_neg (fun e => hb e.symm), if_neg (by omega), if_neg (by omega), if_neg (by omega), if_neg (by omega), if_neg (by omega), if_neg (by omega), if_neg (by omega), if_neg (by omega)]
 rfl
theorem one_facts (n : Int) : fold_One.f 10 n = some (oneF n) ∧ oneF (oneF n) = oneF n := by
 by_cases h : 0 ≤ n ∧ n < 8500
 ·
  obtain ⟨m, rfl⟩ := Int.eq_ofNat_of_zero_le h.1
  have hs := List.all_eq_true.1 one_small m (List.mem_range.2 (by omega))
  revert hs
  cases hf : fold_One.f 10 (m : Int) with
  | none => intro hs; cases hs
  | some r =>
   intro hs
   simp only [beq_iff_eq] at hs
   have e : oneF (m : Int) = r := by unfold oneF; rw [hf]; rfl
   rw [e]
   refine ⟨rfl, ?_⟩
   unfold oneF
   rw [hs]
   rfl
 ·
  have hf : fold_One.f 10 n = some n := by
   by_cases h0 : n < 0
   · exact one_low n h0
   · exact one_high n (by omega)
  have e : oneF n = n := by unfold oneF; rw [hf]; rfl
  rw [e, hf]
  exact ⟨rfl, e⟩
theorem ev_One (n : Int) : Ev (fun k => fold_One.f k n) (oneF n) := Ev.of (fold_One.mono n) (one_facts n).1
theorem rd_get (l : List Int) (i : Nat) (h : i < l.length) : rd l (i : Int) = l[i] := by simp [rd, List.getD_eq_getElem?_getD, List.getElem?_eq_getElem h]
theorem ev_Fold_l (l : List Int) (hl : l.length ≤ 9223372036854775806) : ∀ (d i : Nat), i + d = l.length → Ev (fun k => fold_Fold.l0 k ((l.take i).map oneF ++ List.replicate d 0) l (l.length : Int) (i : Int)) (l.map oneF) := by
 intro d
 induction d with
 | zero =>
  intro i hi
  rw [List.take_of_length_le (by omega), List.replicate_zero, List.append_nil]
  refine Ev.step (fun k => ?_) (Ev.now _)
  simp only [fold_Fold.l0]
  rw [if_neg (by omega)]
 | succ d ih =>
  intro i hi
  have hlen : ((l.take i).map oneF ++ List.replicate (d + 1) 0).length = l.length := by simp; omega
  have hset : ((l.take i).map oneF ++ List.replicate (d + 1) 0).set i (oneF (rd l (i : Int))) = (l.take (i + 1)).map oneF ++ List.replicate d 0 := by
   rw [List.set_append_right _ _ (by simp only [List.length_map, List.length_take]; omega), List.take_succ_eq_append_getElem (by omega), List.map_append, rd_get l i (by omega), List.replicate_succ]
   simp [show min i l.length = i from by omega]
  refine Ev.step (f := fun k => (fold_One.f k (rd l (i : Int))).bind fun t109 => fold_Fold.l0 k (((l.take i).map oneF ++ List.replicate (d + 1) 0).set i t109) l (l.length : Int) ((i + 1 : Nat) : Int)) (fun k => ?_) (Ev.bind (ev_One _) ?_)
  ·
   simp only [fold_Fold.l0]
   rw [if_pos (by omega), if_pos (by omega), if_pos (by omega), wrap64_id ((i : Int) + 1) (by omega) (by omega)]
   simp only [hlen, Int.toNat_natCast, show (i : Int) < (l.length : Int) from by omega, if_true]
   rfl
  ·
   rw [hset]
   exact ih (i + 1) (by omega)
theorem ev_Fold (l : List Int) (hl : l.length ≤ 70368744177664) : Ev (fun k => fold_Fold.f k l) (l.map oneF) := by
 have h := ev_Fold_l l (by omega) l.length 0 (by omega)
 refine Ev.congr (fun k => ?_) h
 unfold fold_Fold.f
 rw [if_pos (by omega), Int.toNat_natCast, if_pos hl]
 rfl
def whatF (l : List Int) : ByteArray := Txt.utf8F (l.map oneF)
theorem ev_What (l : List Int) (hl : l.length ≤ 17592186044416) : Ev (fun k => mail_What.f k l) (whatF l) := by
 unfold mail_What.f
 refine Ev.bind (ev_Fold l (by omega)) (Ev.congr (f := fun _ => some (whatF l)) (fun k => ?_) (Ev.now _))
 unfold runes_Utf8.f
 rw [if_pos (by rw [List.length_map]; exact hl)]
 rfl
theorem whatF_size (l : List Int) : (whatF l).size ≤ 4 * l.length := by
 have h := (Txt.utf8L_len (l.map oneF)).2
 rw [List.length_map] at h
 unfold whatF Txt.utf8F
 show (Txt.utf8L (l.map oneF)).toArray.size ≤ _
 rw [List.size_toArray]
 exact h
theorem lettersF_len : ∀ (m : Nat) (s : ByteArray), (Fold.lettersF m s).length ≤ m
 | 0, _ => Nat.le_refl _
 | m + 1, s => by
  unfold Fold.lettersF
  split
  · exact Nat.zero_le _
  ·
   have := lettersF_len m (s.extract (Lib.decodeGo s).2 s.size)
   rw [List.length_cons]
   omega
def nameF (s : ByteArray) : ByteArray := whatF (Fold.lettersF s.size s)
theorem ev_name (s : ByteArray) (hs : s.size ≤ 17592186044416) : Ev (fun k => mail_name.f k s) (nameF s) := by
 unfold mail_name.f
 refine Ev.bind (g := fun _ => runes_Letters.f s) (a := Fold.lettersF s.size s) ?_ ?_
 ·
  refine Ev.congr (f := fun _ => some (Fold.lettersF s.size s)) (fun k => ?_) (Ev.now _)
  unfold runes_Letters.f
  rw [if_pos hs]
 · exact Ev.bind (ev_What _ (Nat.le_trans (lettersF_len _ _) hs)) (Ev.now _)
end Go.Proofs.YtigcbajcifhinaaGreatDoor.Tot
namespace Go.Proofs.YtigcbajcifhinaaGreatDoor.Tot
open Go.RowKit Go.Proofs.YtigcbajcifhinaaGreatDoor.V Go.Proofs.YtigcbajcifhinaaGreatDoor.Txt Go.Proofs.YtigcbajcifhinaaGreatDoorW.PrintWords
theorem fbL_len : ∀ (l : List UInt8) (b m : Int), (fbL b m l).1.length ≤ l.length
 | [], _, _ => by simp [fbL]
 | c :: r, b, m => by
  unfold fbL
  have h := fun b m => fbL_len r b m
  repeat' split
  all_goals simp only [List.length_cons, List.length_nil]
  all_goals first | exact Nat.zero_le _ | exact Nat.le_succ_of_le (h _ _) | exact Nat.succ_le_succ (h _ _)
theorem fromBase64_size (s : ByteArray) : (fromBase64F s).1.size ≤ s.size := by
 unfold fromBase64F
 rw [mk_size, ← list_size]
 exact fbL_len _ _ _
theorem trimLeft_len (l cs : List UInt8) : (Lib.trimLeftS l cs).length ≤ l.length := (List.dropWhile_sublist _).length_le
theorem trimRight_len (l cs : List UInt8) : (Lib.trimRightS l cs).length ≤ l.length := by
 unfold Lib.trimRightS
 rw [List.length_reverse]
 exact Nat.le_trans (List.dropWhile_sublist _).length_le (by rw [List.length_reverse]; exact Nat.le_refl _)
theorem trim_len (l cs : List UInt8) : (Lib.trimS l cs).length ≤ l.length := Nat.le_trans (trimLeft_len _ _) (trimRight_len _ _)
theorem fq_len : ∀ (m : Nat) (l : List UInt8), (fq m l).1.length ≤ l.length
 | m, [] => by unfold fq; exact Nat.zero_le _
 | 0, _ :: _ => by unfold fq; exact Nat.zero_le _
 | m + 1, c :: r => by
  unfold fq
  have h := fun l => fq_len m l
  repeat' split
  ·
   have h2 := codeOk_len r (by assumption)
   have := h (r.drop 2)
   simp only [List.length_cons, List.length_drop] at this ⊢
   omega
  ·
   have := h (r.drop (endL r).1.toNat)
   simp only [List.length_cons, List.length_drop] at this ⊢
   omega
  ·
   simp only [List.length_cons]
   exact Nat.succ_le_succ (h _)
  · exact Nat.le_trans (h _) (trimLeft_len _ _)
  ·
   simp only [List.length_cons]
   exact Nat.succ_le_succ (h _)
theorem fromQuoted_size (s : ByteArray) : (fromQuotedF s).1.size ≤ s.size := by
 unfold fromQuotedF
 rw [mk_size, ← list_size]
 exact fq_len _ _
theorem quotedL_len : ∀ (m : Nat) (l : List UInt8) (p : List UInt8 × List UInt8), quotedL m l = some p → p.1.length + p.2.length < l.length
 | m, [], p, h => by unfold quotedL at h; cases h
 | 0, _ :: _, p, h => by unfold quotedL at h; cases h
 | m + 1, c :: r, p, h => by
  unfold quotedL at h
  split at h
  ·
   injection h with h
   subst h
   simp
  ·
   split at h
   ·
    split at h
    · cases h
    ·
     rename_i d q
     obtain ⟨p', hp, rfl⟩ := Option.map_eq_some_iff.1 h
     have := quotedL_len m q p' hp
     simp only [List.length_cons]
     omega
   ·
    obtain ⟨p', hp, rfl⟩ := Option.map_eq_some_iff.1 h
    have := quotedL_len m r p' hp
    simp only [List.length_cons]
    omega
theorem quoted_size (s : ByteArray) : (quotedF s).1.size + (quotedF s).2.1.size ≤ s.size := by
 cases h : quotedL s.size s.data.toList with
 | none => rw [quotedF_none h]; exact Nat.zero_le _
 | some p =>
  rw [quotedF_some h]
  have := quotedL_len _ _ _ h
  rw [list_size] at this
  rw [mk_size, mk_size]
  omega
theorem plainL_len : ∀ (m : Nat) (l p : List UInt8), plainL m l = some p → p.length ≤ l.length
 | m, [], p, h => by unfold plainL at h; injection h with h; subst h; exact Nat.le_refl _
 | 0, _ :: _, p, h => by unfold plainL at h; cases h
 | m + 1, c :: r, p, h => by
  unfold plainL at h
  split at h
  ·
   obtain ⟨p', hp, rfl⟩ := Option.map_eq_some_iff.1 h
   have := plainL_len m r p' hp
   simp only [List.length_cons]
   omega
  ·
   split at h
   ·
    split at h
    ·
     split at h
     · cases h
     ·
      split at h
      · cases h
      ·
       obtain ⟨p', hp, rfl⟩ := Option.map_eq_some_iff.1 h
       have := plainL_len m _ p' hp
       simp only [List.length_cons]
       omega
    · cases h
   ·
    obtain ⟨p', hp, rfl⟩ := Option.map_eq_some_iff.1 h
    have := plainL_len m r p' hp
    simp only [List.length_cons]
    omega
theorem plain_size (s : ByteArray) : (plainF s).1.size ≤ s.size := by
 unfold plainF
 split
 ·
  rename_i l h
  have := plainL_len _ _ _ h
  rw [list_size] at this
  rw [mk_size]
  exact this
 · exact Nat.zero_le _
theorem trimB_size (b : List UInt8) : (trimB b).size ≤ b.length := by
 unfold trimB
 rw [mk_size]
 exact trim_len _ _
theorem ext_size (s : ByteArray) (a b : Nat) : (s.extract a b).size = min b s.size - a := ByteArray.size_extract
def Fit (n : Nat) (l : List S43) : Prop := ∀ x ∈ l, x.f0.size ≤ n ∧ x.f1.size ≤ n
theorem Fit.at {n : Nat} {l : List S43} (h : Fit n l) (i : Nat) : (l.getD i z43).f0.size ≤ n ∧ (l.getD i z43).f1.size ≤ n := by
 rw [List.getD_eq_getElem?_getD]
 cases e : l[i]? with
 | none => exact ⟨Nat.zero_le _, Nat.zero_le _⟩
 | some x => exact h x (List.mem_of_getElem? e)
theorem close_fit {N n : Nat} {l : List S43} {b : List UInt8} (h : Fit N l) (hb : b.length ≤ N) : Fit N (closeF n l b) := by
 unfold closeF
 split
 ·
  intro x hx
  rcases List.mem_or_eq_of_mem_set hx with hx | rfl
  · exact h x hx
  · exact ⟨(h.at _).1, Nat.le_trans (trimB_size b) hb⟩
 · exact h
theorem parseL_fit (N : Nat) : ∀ (k : Nat) (r : ByteArray) (n : Nat) (l : List S43) (b : List UInt8), Fit N l → l.length = min n 1024 → b.length + r.size ≤ N →
  Fit N (parseL k r n l b).1 ∧ (parseL k r n l b).1.length ≤ 1024 ∧ (parseL k r n l b).2.size ≤ N
 | 0, r, n, l, b, hl, hn, hb => by
  unfold parseL
  exact ⟨close_fit hl (by omega), by rw [closeF_len, hn]; omega, by show r.size ≤ N; omega⟩
 | k + 1, r, n, l, b, hl, hn, hb => by
  have hs := line_size r
  have hd : (lineF r).1.data.toList.length = (lineF r).1.size := list_size _
  unfold parseL
  split
  · exact ⟨close_fit hl (by omega), by rw [closeF_len, hn]; omega, by show r.size ≤ N; omega⟩
  ·
   split
   · exact ⟨close_fit hl (by omega), by rw [closeF_len, hn]; omega, by show (lineF r).2.size ≤ N; omega⟩
   ·
    split
    · exact parseL_fit N k _ _ _ _ hl hn (by rw [List.length_append, hd]; omega)
    ·
     split
     ·
      refine parseL_fit N k _ _ _ _ ?_ (nextF_len n l b _ hn) ?_
      ·
       unfold nextF
       split
       ·
        intro x hx
        rcases List.mem_append.1 hx with hx | hx
        · exact close_fit hl (by omega) x hx
        ·
         obtain rfl := List.mem_singleton.1 hx
         refine ⟨?_, Nat.zero_le _⟩
         rw [ext_size]
         omega
       · exact close_fit hl (by omega)
      ·
       rw [list_size, ext_size]
       omega
     · exact ⟨close_fit hl (by omega), by rw [closeF_len, hn]; omega, by show r.size ≤ N; omega⟩
theorem parse_fit (s : ByteArray) : Fit s.size (parseF s).1 ∧ (parseF s).1.length ≤ 1024 ∧ (parseF s).2.size ≤ s.size :=
 parseL_fit s.size s.size s 0 [] [] (fun x h => by cases h) rfl (by show 0 + s.size ≤ s.size; omega)
theorem cut_size (s t : ByteArray) : (⟨(Lib.cut s.data.toList t.data.toList).1.toArray⟩ : ByteArray).size + (⟨(Lib.cut s.data.toList t.data.toList).2.1.toArray⟩ : ByteArray).size ≤ s.size := by
 rw [mk_size, mk_size, ← list_size]
 unfold Lib.cut
 split
 ·
  simp only [List.length_take, List.length_drop]
  omega
 · simp
theorem cut_less (s t : ByteArray) (ht : 0 < t.size) (h : 0 < s.size) : (⟨(Lib.cut s.data.toList t.data.toList).2.1.toArray⟩ : ByteArray).size < s.size := by
 rw [mk_size, ← list_size]
 rw [← list_size] at h ht
 unfold Lib.cut
 split
 ·
  simp only [List.length_drop]
  omega
 ·
  simp only [List.length_nil]
  exact h
theorem trimPrefix_size (s t : ByteArray) : (⟨(Lib.trimPrefix s.data.toList t.data.toList).toArray⟩ : ByteArray).size ≤ s.size ∧ (Lib.hasPrefix s.data.toList t.data.toList = true → (⟨(Lib.trimPrefix s.data.toList t.data.toList).toArray⟩ : ByteArray).size + t.size ≤ s.size) := by
 rw [mk_size, ← list_size, ← list_size]
 unfold Lib.trimPrefix
 constructor
 · split <;> simp
 ·
  intro h
  rw [if_pos h, List.length_drop]
  unfold Lib.hasPrefix at h
  have := (List.isPrefixOf_iff_prefix.1 h).length_le
  omega
theorem trimSuffix_size (s t : ByteArray) : (⟨(Lib.trimSuffix s.data.toList t.data.toList).toArray⟩ : ByteArray).size ≤ s.size := by
 rw [mk_size, ← list_size]
 unfold Lib.trimSuffix
 split <;> simp
theorem splitB_sum (sep : ByteArray) : ∀ (k : Nat) (s : ByteArray), ((Lib.splitB sep 0 k s).map (·.size)).sum ≤ s.size
 | 0, s => by simp [Lib.splitB]
 | k + 1, s => by
  unfold Lib.splitB
  split
  · simp
  ·
   have h := splitB_sum sep k (s.extract ((Lib.indexB s sep).toNat + sep.size) s.size)
   rw [ext_size] at h
   simp only [List.map_cons, List.sum_cons, ext_size]
   omega
theorem bt_range (s : ByteArray) (i : Int) : 0 ≤ bt s i ∧ bt s i < 256 := by
 unfold bt
 split
 ·
  refine ⟨Int.natCast_nonneg _, ?_⟩
  have := (s[i.toNat]).toNat_lt
  omega
 · exact ⟨Int.le_refl _, by decide⟩
theorem wrap64_succ (i : Nat) (h : i < 4611686018427387904) : wrap64 ((i : Int) + 1) = ((i + 1 : Nat) : Int) := by
 rw [wrap64_id _ (by omega) (by omega)]
 rfl
theorem t_Cut (s t : ByteArray) (hs : s.size ≤ 1073741824) : EvP (fun _ => strings_Cut.f s t) (fun r => r.1.size + r.2.1.size ≤ s.size ∧ (0 < t.size → 0 < s.size → r.2.1.size < s.size)) :=
 EvP.cst (by unfold strings_Cut.f; rw [if_pos (by omega)]) ⟨cut_size s t, cut_less s t⟩
theorem t_CutPrefix (s t : ByteArray) : EvP (fun _ => strings_CutPrefix.f s t) (fun r => r.1.size ≤ s.size ∧ (r.2 = true → r.1.size + t.size ≤ s.size)) :=
 EvP.cst rfl (trimPrefix_size s t)
theorem hasPrefix_size (s t : ByteArray) (h : Lib.hasPrefix s.data.toList t.data.toList = true) : t.size ≤ s.size := by
 unfold Lib.hasPrefix at h
 have := (List.isPrefixOf_iff_prefix.1 h).length_le
 rw [list_size, list_size] at this
 exact this
theorem t_HasPrefix (s t : ByteArray) : EvP (fun _ => strings_HasPrefix.f s t) (fun r => r = true → t.size ≤ s.size) := EvP.cst rfl (hasPrefix_size s t)
theorem t_small (a : Int) : EvP (fun _ => head_small.f a) (fun _ => True) := by
 unfold head_small.f
 repeat' first
  | exact EvP.now _ trivial
  | refine EvP.ite (fun _ => ?_) (fun _ => ?_)
theorem t_Like_l (a b : ByteArray) (h : a.size = b.size) (hl : a.size ≤ 1099511627776) : ∀ (d i : Nat), i + d = a.size → EvP (fun k => head_Like.l0 k a b (a.size : Int) (i : Int)) (fun _ => True) := by
 intro d
 induction d with
 | zero =>
  intro i hi
  refine EvP.step (fun k => by rw [head_Like.l0]) ?_
  exact EvP.not (by omega) (EvP.now _ trivial)
 | succ d ih =>
  intro i hi
  refine EvP.step (fun k => by rw [head_Like.l0]) ?_
  refine EvP.yes (by omega) (EvP.yes (by omega) (EvP.yes (by omega) (EvP.bind (t_small _) fun _ _ => EvP.yes (by omega) (EvP.bind (t_small _) fun _ _ => EvP.ite (fun _ => ?_) (fun _ => EvP.now _ trivial)))))
  rw [wrap64_succ i (by omega)]
  exact ih (i + 1) (by omega)
theorem t_Like (a b : ByteArray) (hl : a.size ≤ 1099511627776) : EvP (fun k => head_Like.f k a b) (fun _ => True) := by
 unfold head_Like.f
 refine EvP.ite (fun h => ?_) (fun _ => EvP.now _ trivial)
 exact t_Like_l a b (by omega) hl a.size 0 (by omega)
theorem t_names (a : Int) : EvP (fun _ => runes_names.f a) (fun _ => True) := by
 unfold runes_names.f
 repeat' first
  | exact EvP.now _ trivial
  | refine EvP.ite (fun _ => ?_) (fun _ => ?_)
theorem t_Named_l (s : ByteArray) : ∀ (d : Nat) (i : Int), 0 ≤ i → i + d = 6 → EvP (fun k => runes_Named.l0 k s i) (fun _ => True) := by
 intro d
 induction d with
 | zero =>
  intro i h0 hi
  refine EvP.step (fun k => by rw [runes_Named.l0]) ?_
  exact EvP.not (by omega) (EvP.now _ trivial)
 | succ d ih =>
  intro i h0 hi
  refine EvP.step (fun k => by rw [runes_Named.l0]) ?_
  refine EvP.yes (by omega) (EvP.bind (t_names _) fun _ _ => EvP.ite (fun _ => EvP.now _ trivial) (fun _ => EvP.ite (fun _ => EvP.now _ trivial) (fun _ => ?_)))
  exact ih _ (by omega) (by omega)
theorem t_great (s : ByteArray) (hs : s.size ≤ 1073741824) : EvP (fun _ => runes_great.f s) (fun _ => True) := EvP.cst (by unfold runes_great.f; rw [if_pos (by omega)]) trivial
theorem t_Named (s : ByteArray) (hs : s.size ≤ 1073741824) : EvP (fun k => runes_Named.f k s) (fun _ => True) := by
 unfold runes_Named.f
 exact EvP.bind (t_great s hs) fun _ _ => t_Named_l _ 5 1 (by omega) (by omega)
theorem t_Name (a : Int) : EvP (fun _ => runes_Name.f a) (fun _ => True) := by
 unfold runes_Name.f
 refine EvP.bind (t_names a) fun _ _ => ?_
 exact EvP.ite (fun _ => EvP.now _ trivial) (fun _ => EvP.now _ trivial)
theorem t_letter (c b : Int) (h : 0 ≤ b ∧ b < 256) : EvP (fun _ => runes_letter.f c b) (fun _ => True) := EvP.cst (by unfold runes_letter.f; rw [if_pos h]) trivial
theorem t_Letters (s : ByteArray) (hs : s.size ≤ 1073741824) : EvP (fun _ => runes_Letters.f s) (fun r => r.length ≤ s.size) := EvP.cst (by unfold runes_Letters.f; rw [if_pos (by omega)]) (lettersF_len _ _)
theorem t_Decode_l (c : Int) (s : ByteArray) (hl : s.size ≤ 1073741824) : ∀ (d i : Nat) (x : List Int), x.length = s.size → i + d = s.size → EvP (fun k => runes_Decode.l0 k c s x (s.size : Int) (i : Int)) (fun r => r.1.length ≤ s.size) := by
 intro d
 induction d with
 | zero =>
  intro i x hx hi
  refine EvP.step (fun k => by rw [runes_Decode.l0]) ?_
  exact EvP.not (by omega) (EvP.now _ (Nat.le_of_eq hx))
 | succ d ih =>
  intro i x hx hi
  refine EvP.step (fun k => by rw [runes_Decode.l0]) ?_
  refine EvP.yes (by omega) (EvP.yes (by omega) (EvP.yes (by omega) (EvP.bind (t_letter _ _ (bt_range _ _)) fun _ _ => EvP.yes (by omega) ?_)))
  rw [wrap64_succ i (by omega)]
  exact ih (i + 1) _ (by rw [List.length_set]; exact hx) (by omega)
theorem t_Decode (c : Int) (s : ByteArray) (hs : s.size ≤ 1073741824) : EvP (fun k => runes_Decode.f k c s) (fun r => r.1.length ≤ s.size) := by
 unfold runes_Decode.f
 refine EvP.bind (t_Name c) fun _ _ => EvP.ite (fun _ => ?_) (fun _ => EvP.now _ (Nat.zero_le _))
 refine EvP.ite (fun _ => EvP.bind (t_Letters s hs) fun _ h => EvP.now _ h) (fun _ => EvP.yes (by omega) (EvP.yes (by omega) ?_))
 exact t_Decode_l c s hs s.size 0 _ (by rw [List.length_replicate]; omega) (by omega)
theorem t_printable_l (s : ByteArray) (hl : s.size ≤ 1099511627776) : ∀ (d i : Nat), i + d = s.size → EvP (fun k => word_printable.l0 k s (s.size : Int) (i : Int)) (fun _ => True) := by
 intro d
 induction d with
 | zero =>
  intro i hi
  refine EvP.step (fun k => by rw [word_printable.l0]) ?_
  exact EvP.not (by omega) (EvP.now _ trivial)
 | succ d ih =>
  intro i hi
  refine EvP.step (fun k => by rw [word_printable.l0]) ?_
  refine EvP.yes (by omega) (EvP.yes (by omega) (EvP.yes (by omega) (EvP.ite (fun _ => EvP.now _ trivial) (fun _ => EvP.ite (fun _ => EvP.now _ trivial) (fun _ => ?_)))))
  rw [wrap64_succ i (by omega)]
  exact ih (i + 1) (by omega)
theorem t_printable (s : ByteArray) (hl : s.size ≤ 1099511627776) : EvP (fun k => word_printable.f k s) (fun _ => True) := by
 unfold word_printable.f
 exact t_printable_l s hl s.size 0 (by omega)
theorem t_FromBase64 (s : ByteArray) (hs : s.size ≤ 1073741824) : EvP (fun _ => enc_FromBase64.f s) (fun r => r.1.size ≤ s.size) := EvP.cst (by unfold enc_FromBase64.f; rw [if_pos (by omega)]) (fromBase64_size s)
theorem t_Base64 (s : ByteArray) (hs : s.size ≤ 1073741824) : EvP (fun _ => enc_Base64.f s) (fun _ => True) := EvP.cst (by unfold enc_Base64.f; rw [if_pos (by omega)]) trivial
theorem t_Strict (s : ByteArray) (hs : s.size ≤ 1073741824) : EvP (fun _ => enc_Strict.f s) (fun r => r.1.size ≤ s.size) := by
 unfold enc_Strict.f
 exact EvP.bind (t_FromBase64 s hs) fun _ h => EvP.bind (t_Base64 _ (Nat.le_trans h hs)) fun _ _ => EvP.ite (fun _ => EvP.now _ h) (fun _ => EvP.now _ (Nat.zero_le _))
theorem t_plain (s : ByteArray) (hs : s.size ≤ 1073741824) : EvP (fun _ => word_plain.f s) (fun r => r.1.size ≤ s.size) := EvP.cst (by unfold word_plain.f; rw [if_pos (by omega)]) (plain_size s)
theorem t_bytes (a s : ByteArray) (ha : a.size ≤ 1073741824) (hs : s.size ≤ 1073741824) : EvP (fun k => word_bytes.f k a s) (fun r => r.1.size ≤ s.size) := by
 unfold word_bytes.f
 refine EvP.bind (t_Like _ _ (by omega)) fun _ _ => EvP.ite (fun _ => EvP.bind (t_Strict s hs) fun _ h => EvP.now _ h) (fun _ => ?_)
 exact EvP.bind (t_Like _ _ (by omega)) fun _ _ => EvP.ite (fun _ => EvP.bind (t_plain s hs) fun _ h => EvP.now _ h) (fun _ => EvP.now _ (Nat.zero_le _))
theorem t_SplitN (s : ByteArray) (hs : s.size ≤ 1073741824) : EvP (fun _ => strings_SplitN.f s ⟨#[63]⟩ 4) (fun r => (r.map (·.size)).sum ≤ s.size) :=
 EvP.cst (by unfold strings_SplitN.f; rw [if_pos ⟨by omega, by decide, by decide, by decide⟩]) (splitB_sum _ _ s)
theorem four_of {l : List ByteArray} (h : ¬ (l.length : Int) < 4) : ∃ a b c d t, l = a :: b :: c :: d :: t := by
 match l, h with
 | a :: b :: c :: d :: t, _ => exact ⟨a, b, c, d, t, rfl⟩
 | [], h => simp at h
 | [_], h => simp at h
 | [_, _], h => simp at h
 | [_, _, _], h => simp at h
def OneP (s : ByteArray) (r : List Int × ByteArray × Int) : Prop := r.2.2 = 0 → r.1.length + r.2.1.size ≤ s.size ∧ r.2.1.size < s.size
theorem t_One_no (s : ByteArray) (l : List ByteArray) : EvP (fun k => word_One.j0 k l true) (OneP s) := by
 refine EvP.step (fun k => by rw [word_One.j0]) ?_
 exact EvP.yes rfl (EvP.now _ (fun h => absurd h (by decide)))
theorem t_One_yes (s a b c d : ByteArray) (t : List ByteArray) (hs : s.size ≤ 1073741824) (hl : a.size + b.size + c.size + d.size + 2 ≤ s.size) (hd : 1 ≤ d.size) (x : Bool) : EvP (fun k => word_One.j0 k (a :: b :: c :: d :: t) x) (OneP s) := by
 have r0 : rdOf ByteArray.empty (a :: b :: c :: d :: t) 0 = a := rfl
 have r1 : rdOf ByteArray.empty (a :: b :: c :: d :: t) 1 = b := rfl
 have r2 : rdOf ByteArray.empty (a :: b :: c :: d :: t) 2 = c := rfl
 have r3 : rdOf ByteArray.empty (a :: b :: c :: d :: t) 3 = d := rfl
 have hn : ((a :: b :: c :: d :: t).length : Int) = (t.length : Int) + 4 := by simp only [List.length_cons]; omega
 refine EvP.step (fun k => by rw [word_One.j0]) ?_
 rw [hn, r0, r1, r2, r3]
 refine EvP.ite (fun _ => EvP.now _ (fun h => absurd h (by decide))) (fun _ => ?_)
 refine EvP.yes (by omega) (EvP.bind (t_Cut a _ (by omega)) fun p hp => EvP.bind (t_Named p.1 (by omega)) fun n _ => EvP.yes (by omega) (EvP.yes (by omega) (EvP.bind (t_bytes b c (by omega) (by omega)) fun q hq => ?_)))
 refine EvP.ite (fun _ => EvP.ite (fun _ => ?_) (fun _ => EvP.now _ (fun h => absurd h (by decide)))) (fun _ => EvP.now _ (fun h => absurd h (by decide)))
 refine EvP.bind (t_Decode _ _ (by omega)) fun z hz => EvP.yes (by omega) (EvP.yes (by omega) (EvP.now _ (fun _ => ?_)))
 show z.1.length + (d.extract 1 d.size).size ≤ s.size ∧ (d.extract 1 d.size).size < s.size
 rw [ext_size]
 omega
theorem t_One (s : ByteArray) (hs : s.size ≤ 1073741824) : EvP (fun k => word_One.f k s) (OneP s) := by
 unfold word_One.f
 refine EvP.bind (t_CutPrefix s _) fun x hx => EvP.bind (t_SplitN x.1 (by omega)) fun l hl => EvP.ite (fun h2 => ?_) (fun _ => t_One_no s l)
 refine EvP.ite (fun _ => t_One_no s l) (fun h4 => ?_)
 obtain ⟨a, b, c, d, t, rfl⟩ := four_of h4
 have hx2 := hx.2 h2
 rw [show (⟨#[61, 63]⟩ : ByteArray).size = 2 from rfl] at hx2
 simp only [List.map_cons, List.sum_cons] at hl
 have r0 : rdOf ByteArray.empty (a :: b :: c :: d :: t) 0 = a := rfl
 have r1 : rdOf ByteArray.empty (a :: b :: c :: d :: t) 1 = b := rfl
 have r2 : rdOf ByteArray.empty (a :: b :: c :: d :: t) 2 = c := rfl
 have r3 : rdOf ByteArray.empty (a :: b :: c :: d :: t) 3 = d := rfl
 have hn : ((a :: b :: c :: d :: t).length : Int) = (t.length : Int) + 4 := by simp only [List.length_cons]; omega
 rw [hn, r0, r1, r2, r3]
 refine EvP.yes (by omega) (EvP.bind (t_HasPrefix d _) fun q hq => EvP.ite (fun hp => ?_) (fun _ => t_One_no s _))
 have hd := hq hp
 rw [show (⟨#[61]⟩ : ByteArray).size = 1 from rfl] at hd
 refine EvP.yes (by omega) (EvP.yes (by omega) (EvP.yes (by omega) (EvP.yes (by omega) (EvP.yes (by rw [ByteArray.size_append]; omega) (EvP.bind (t_printable _ (by rw [ByteArray.size_append, ByteArray.size_append]; omega)) fun p _ => ?_)))))
 exact t_One_yes s a b c d t hs (by omega) hd _
theorem EvP.map {α β : Type} {g : Nat → Option α} {f : α → β} {P : α → Prop} {Q : β → Prop} (h : EvP g P) (k : ∀ a, P a → Q (f a)) : EvP (fun n => (g n).map f) Q := by
 obtain ⟨a, ⟨K, hK⟩, hp⟩ := h
 exact ⟨f a, ⟨K, fun n hn => by show (g n).map f = _; rw [hK n hn]; rfl⟩, k a hp⟩
def totP : List Pc → Nat
 | [] => 0
 | p :: r => p.ahead.size + p.word.length + totP r
theorem t_pcs (s : ByteArray) (hs : s.size ≤ 1073741824) : ∀ (m k i : Nat), k ≤ i → i ≤ s.size → s.size ≤ i + m → EvP (fun n => pcsL (fun a => word_One.f n a) s m k i) (fun P => totP P + k ≤ s.size) := by
 intro m
 induction m with
 | zero =>
  intro k i hk hi hm
  unfold pcsL
  refine EvP.yes (by omega) (EvP.now _ ?_)
  show (s.extract k s.size).size + 0 + 0 + k ≤ s.size
  rw [ext_size]
  omega
 | succ m ih =>
  intro k i hk hi hm
  unfold pcsL
  refine EvP.ite (fun _ => EvP.now _ ?_) (fun h0 => ?_)
  ·
   show (s.extract k s.size).size + 0 + 0 + k ≤ s.size
   rw [ext_size]
   omega
  ·
   refine EvP.ite (fun _ => ?_) (fun _ => ih k (i + 1) (by omega) (by omega) (by omega))
   have hz : (s.extract i s.size).size = s.size - i := by rw [ext_size]; omega
   refine EvP.bind (t_One (s.extract i s.size) (by omega)) fun r hr => EvP.ite (fun he => ?_) (fun _ => ih k (i + 1) (by omega) (by omega) (by omega))
   have h2 := hr he
   rw [hz] at h2
   refine EvP.yes (by omega) (EvP.map (ih (s.size - r.2.1.size) (s.size - r.2.1.size) (Nat.le_refl _) (by omega) (by omega)) fun P hP => ?_)
   show (s.extract k i).size + r.1.length + totP P + k ≤ s.size
   rw [ext_size]
   omega
theorem stepD_len (k : Nat) (p : Pc) (out : List Int) : (stepD k p out).length ≤ out.length + p.ahead.size + p.word.length := by
 unfold stepD
 have := lettersF_len p.ahead.size p.ahead
 split <;> simp only [List.length_append] <;> omega
theorem foldD_tot : ∀ (P : List Pc) (k : Nat) (out : List Int) (N : Nat), N ≤ 1073741824 → out.length + totP P ≤ N → ∃ r, foldD k P out = some r ∧ r.length ≤ N
 | [], k, out, N, _, h => ⟨out, by unfold foldD; rfl, by unfold totP at h; omega⟩
 | p :: r, k, out, N, hN, h => by
  unfold totP at h
  have hl := stepD_len k p out
  obtain ⟨q, hq, hn⟩ := foldD_tot r (k + 1) (stepD k p out) N hN (by omega)
  refine ⟨q, ?_, hn⟩
  unfold foldD
  rw [if_pos (by omega)]
  exact hq
theorem t_wDecode (s : ByteArray) (hs : s.size ≤ 1073741824) : EvP (fun k => word_Decode.f k s) (fun r => r.length ≤ s.size) := by
 unfold word_Decode.f decodeF
 refine EvP.yes hs (EvP.bind (t_pcs s hs s.size 0 0 (Nat.le_refl _) (Nat.zero_le _) (by omega)) fun P hP => ?_)
 obtain ⟨r, hr, hn⟩ := foldD_tot P 0 [] s.size hs (by simp only [List.length_nil]; omega)
 exact EvP.cst hr hn
theorem rd43_fit {n : Nat} {l : List S43} (h : Fit n l) (i : Int) : (rd_T43 l i).f0.size ≤ n ∧ (rd_T43 l i).f1.size ≤ n := by
 unfold rd_T43
 rw [List.getD_eq_getElem?_getD]
 cases e : l[i.toNat]? with
 | none => exact ⟨Nat.zero_le _, Nat.zero_le _⟩
 | some x => exact h x (List.mem_of_getElem? e)
theorem t_Find_l (N : Nat) (a : ByteArray) (l : List S43) (hf : Fit N l) (hN : N ≤ 1073741824) (hl : l.length ≤ 1099511627776) : ∀ (d i : Nat), i + d = l.length → EvP (fun k => head_Find.l0 k a l (l.length : Int) (i : Int)) (fun r => r.1.size ≤ N) := by
 intro d
 induction d with
 | zero =>
  intro i hi
  refine EvP.step (fun k => by rw [head_Find.l0]) ?_
  exact EvP.not (by omega) (EvP.now _ (Nat.zero_le _))
 | succ d ih =>
  intro i hi
  have hx := rd43_fit hf (i : Int)
  refine EvP.step (fun k => by rw [head_Find.l0]) ?_
  refine EvP.yes (by omega) (EvP.yes (by omega) (EvP.yes (by omega) (EvP.bind (t_Like _ _ (by omega)) fun _ _ => EvP.ite (fun _ => EvP.now _ hx.2) (fun _ => ?_))))
  rw [wrap64_succ i (by omega)]
  exact ih (i + 1) (by omega)
theorem t_Find (N : Nat) (a : ByteArray) (l : List S43) (hf : Fit N l) (hN : N ≤ 1073741824) (hl : l.length ≤ 1099511627776) : EvP (fun k => head_Find.f k l a) (fun r => r.1.size ≤ N) := by
 unfold head_Find.f
 exact t_Find_l N a l hf hN hl l.length 0 (by omega)
theorem t_Parse (s : ByteArray) (hs : s.size ≤ 1073741824) : EvP (fun _ => head_Parse.f s) (fun r => Fit s.size r.1 ∧ r.1.length ≤ 1024) :=
 EvP.cst (by unfold head_Parse.f; rw [if_pos hs]) ⟨(parse_fit s).1, (parse_fit s).2.1⟩
theorem t_number (a b c : Int) : EvP (fun _ => date_number.f a b c) (fun _ => True) := by
 unfold date_number.f
 exact EvP.ite (fun _ => EvP.now _ trivial) (fun _ => EvP.now _ trivial)
theorem t_civil (a : Int) : EvP (fun _ => date_civil.f a) (fun _ => True) := by
 unfold date_civil.f
 exact EvP.ite (fun _ => EvP.now _ trivial) (fun _ => EvP.now _ trivial)
theorem t_Day_j (a b c : Int) (x : Bool) : EvP (fun k => date_Day.j0 k a b c x) (fun _ => True) := by
 refine EvP.step (fun k => by rw [date_Day.j0]) ?_
 exact EvP.ite (fun _ => EvP.now _ trivial) (fun _ => EvP.bind (t_number _ _ _) fun _ _ => EvP.bind (t_civil _) fun _ _ => EvP.ite (fun _ => EvP.now _ trivial) (fun _ => EvP.now _ trivial))
theorem t_Day (a b c : Int) : EvP (fun k => date_Day.f k a b c) (fun _ => True) := by
 unfold date_Day.f
 repeat' first
  | exact t_Day_j _ _ _ _
  | refine EvP.ite (fun _ => ?_) (fun _ => ?_)
theorem t_day (a b c : Int) : EvP (fun k => date_day.f k a b c) (fun _ => True) := by
 unfold date_day.f
 exact EvP.bind (t_Day a b c) fun _ _ => EvP.ite (fun _ => EvP.now _ trivial) (fun _ => EvP.now _ trivial)
theorem t_month_l (s : ByteArray) (hs : s.size ≤ 1073741824) : ∀ (d i : Nat), i + d = 12 → EvP (fun k => date_month.l0 k s ((3 * i : Nat) : Int)) (fun _ => True) := by
 intro d
 induction d with
 | zero =>
  intro i hi
  refine EvP.step (fun k => by rw [date_month.l0]) ?_
  exact EvP.not (by omega) (EvP.now _ trivial)
 | succ d ih =>
  intro i hi
  have e : wrap64 (((3 * i : Nat) : Int) + 3) = ((3 * (i + 1) : Nat) : Int) := by
   rw [wrap64_id _ (by omega) (by omega)]
   omega
  refine EvP.step (fun k => by rw [date_month.l0]) ?_
  rw [e]
  refine EvP.yes (by omega) (EvP.yes (by omega) (EvP.yes (by omega) (EvP.yes (by omega) (EvP.bind (t_Like _ _ (by omega)) fun _ _ => EvP.ite (fun _ => EvP.now _ trivial) (fun _ => ih (i + 1) (by omega))))))
theorem t_month (s : ByteArray) (hs : s.size ≤ 1073741824) : EvP (fun k => date_month.f k s) (fun _ => True) := by
 unfold date_month.f
 exact t_month_l s hs 12 0 (by omega)
theorem t_Mail (s : ByteArray) (hs : s.size ≤ 1073741824) : EvP (fun k => date_Mail.f k s) (fun _ => True) := by
 unfold date_Mail.f
 refine EvP.yes hs (EvP.ite (fun _ => EvP.now _ trivial) (fun _ => ?_))
 refine EvP.bind (t_month _ ?_) fun _ _ => t_day _ _ _
 have h : ∀ x ∈ dateW s, x.size ≤ s.size := fun x hx => Nat.le_trans (fields_size _ _ x hx) (behind_size s)
 unfold rdOf
 rw [List.getD_eq_getElem?_getD]
 cases e : (dateW s)[(1 : Int).toNat]? with
 | none => exact Nat.zero_le _
 | some x => exact Nat.le_trans (h x (List.mem_of_getElem? e)) hs
theorem toList_size (s : ByteArray) : s.toList.length = s.size := by
 rw [ByteArray.toList_eq]
 exact list_size s
theorem size_of_some {s : ByteArray} (h : ¬ s.toList = ([] : List UInt8)) : 0 < s.size := by
 rw [← toList_size]
 exact List.length_pos_iff.2 h
theorem t_IndexByte (s : ByteArray) (c : Int) : EvP (fun _ => strings_IndexByte.f s c) (fun _ => True) := EvP.cst rfl trivial
def TokP (s : ByteArray) (r : ByteArray × ByteArray) : Prop := r.1.size + r.2.size ≤ s.size
theorem t_tok_end (s : ByteArray) (i : Nat) (h : i ≤ s.size) : EvP (fun _ => if (i : Int) ≤ (s.size : Int) then some (s.extract 0 (i : Int).toNat, s.extract (i : Int).toNat s.size) else none) (TokP s) :=
 EvP.yes (by omega) (EvP.now _ (by show (s.extract 0 _).size + (s.extract _ _).size ≤ s.size; rw [ext_size, ext_size]; omega))
theorem t_token_l (s : ByteArray) (hs : s.size ≤ 1073741824) : ∀ (d i : Nat), i + d = s.size → EvP (fun k => mime_token.l0 k s (i : Int)) (TokP s) := by
 intro d
 induction d with
 | zero =>
  intro i hi
  refine EvP.step (fun k => by rw [mime_token.l0]) ?_
  exact EvP.not (by omega) (EvP.yes (by omega) (t_tok_end s i (by omega)))
 | succ d ih =>
  intro i hi
  refine EvP.step (fun k => by rw [mime_token.l0]) ?_
  refine EvP.yes (by omega) (EvP.yes (by omega) (EvP.ite (fun _ => EvP.ite (fun _ => EvP.bind (t_IndexByte _ _) fun _ _ => EvP.ite (fun _ => ?_) (fun _ => t_tok_end s i (by omega))) (fun _ => t_tok_end s i (by omega))) (fun _ => t_tok_end s i (by omega))))
  rw [wrap64_succ i (by omega)]
  exact ih (i + 1) (by omega)
theorem t_token (s : ByteArray) (hs : s.size ≤ 1073741824) : EvP (fun k => mime_token.f k s) (TokP s) := by
 unfold mime_token.f
 exact t_token_l s hs s.size 0 (by omega)
theorem t_kind (s : ByteArray) (hs : s.size ≤ 1073741824) : EvP (fun k => mime_kind.f k s) (fun _ => True) := by
 unfold mime_kind.f
 refine EvP.bind (t_token s hs) fun p hp => EvP.bind (t_CutPrefix p.2 _) fun q hq => ?_
 unfold TokP at hp
 refine EvP.bind (t_token q.1 (by omega)) fun _ _ => ?_
 repeat' first
  | exact EvP.now _ trivial
  | refine EvP.ite (fun _ => ?_) (fun _ => ?_)
theorem t_front (s : ByteArray) (hs : s.size ≤ 1073741824) : EvP (fun _ => mime_front.f s) (fun r => r.size ≤ s.size) := by
 unfold mime_front.f
 refine EvP.bind (EvP.cst (by unfold strings_TrimLeft.f; rw [if_pos ⟨by omega, by decide, by decide⟩]) (P := fun r => r.size ≤ s.size) ?_) fun _ h => EvP.now _ h
 rw [mk_size, ← list_size]
 exact trimLeft_len _ _
theorem t_quoted (s : ByteArray) (hs : s.size ≤ 1073741824) : EvP (fun _ => mime_quoted.f s) (fun r => r.1.size + r.2.1.size ≤ s.size) := EvP.cst (by unfold mime_quoted.f; rw [if_pos (by omega)]) (quoted_size s)
theorem t_param_j (a s : ByteArray) (hs : s.size ≤ 1073741824) (x : Bool) : EvP (fun k => mime_param.j0 k a s x) (fun r => r.1.size ≤ a.size ∧ r.2.1.size ≤ s.size ∧ r.2.2.1.size ≤ s.size ∧ (x = true → r.2.2.2 = false)) := by
 refine EvP.step (fun k => by rw [mime_param.j0]) ?_
 refine EvP.ite (fun _ => EvP.now _ ⟨Nat.zero_le _, Nat.zero_le _, Nat.zero_le _, fun _ => rfl⟩) (fun hx => ?_)
 refine EvP.bind (t_front s hs) fun f hf => EvP.bind (t_CutPrefix f _) fun p hp => EvP.ite (fun _ => ?_) (fun _ => ?_)
 ·
  refine EvP.bind (t_quoted p.1 (by omega)) fun q hq => EvP.bind (t_front q.2.1 (by omega)) fun g hg => EvP.now _ ⟨Nat.le_refl _, ?_, ?_, fun h => absurd h hx⟩
  ·
   show q.1.size ≤ s.size
   omega
  ·
   show g.size ≤ s.size
   omega
 ·
  refine EvP.bind (t_token f (by omega)) fun q hq => ?_
  unfold TokP at hq
  refine EvP.bind (t_front q.2 (by omega)) fun g hg => EvP.now _ ⟨Nat.le_refl _, ?_, ?_, fun h => absurd h hx⟩
  ·
   show q.1.size ≤ s.size
   omega
  ·
   show g.size ≤ s.size
   omega
theorem t_param (s : ByteArray) (hs : s.size ≤ 1073741824) : EvP (fun k => mime_param.f k s) (fun r => r.1.size ≤ s.size ∧ r.2.1.size ≤ s.size ∧ r.2.2.1.size ≤ s.size ∧ (r.2.2.2 = true → r.2.2.1.size < s.size)) := by
 unfold mime_param.f
 refine EvP.bind (t_front s hs) fun f hf => EvP.bind (t_token f (by omega)) fun p hp => ?_
 unfold TokP at hp
 refine EvP.bind (t_front p.2 (by omega)) fun g hg => EvP.bind (t_CutPrefix g _) fun q hq => EvP.ite (fun _ => ?_) (fun hn => ?_)
 ·
  refine (t_param_j p.1 q.1 (by omega) true).imp fun r hr => ⟨by omega, by omega, by omega, fun h => ?_⟩
  rw [hr.2.2.2 rfl] at h
  cases h
 ·
  have := size_of_some hn
  exact (t_param_j p.1 q.1 (by omega) _).imp fun r hr => ⟨by omega, by omega, by omega, fun h => by omega⟩
theorem Fit.snoc {n : Nat} {l : List S43} (h : Fit n l) {x : S43} (h0 : x.f0.size ≤ n) (h1 : x.f1.size ≤ n) : Fit n (l ++ [x]) := by
 intro y hy
 rcases List.mem_append.1 hy with hy | hy
 · exact h y hy
 ·
  obtain rfl := List.mem_singleton.1 hy
  exact ⟨h0, h1⟩
def TypP (N : Nat) (r : ByteArray × List S43) : Prop := r.1.size ≤ N + 10 ∧ Fit N r.2 ∧ r.2.length ≤ N
theorem t_Type_l (N : Nat) (hN : N ≤ 1073741824) (t : ByteArray) (ht : t.size ≤ N + 10) : ∀ (m : Nat) (s : ByteArray) (x : Bool) (l : List S43), s.size < m → Fit N l → l.length + s.size ≤ N → EvP (fun k => mime_Type.l0 k t s x l) (TypP N) := by
 intro m
 induction m with
 | zero => intro s x l h; omega
 | succ m ih =>
  intro s x l hm hl hn
  refine EvP.step (fun k => by rw [mime_Type.l0]) ?_
  have hd : TypP N (t, l) := ⟨ht, hl, by show l.length ≤ N; omega⟩
  refine EvP.ite (fun _ => EvP.bind (t_param s (by omega)) fun p hp => EvP.ite (fun hy => EvP.yes (by omega) (EvP.bind (t_CutPrefix p.2.2.1 _) fun q hq => ?_)) (fun _ => EvP.now _ hd)) (fun _ => EvP.now _ hd)
  have h3 := hp.2.2.2 hy
  exact ih q.1 _ _ (by omega) (hl.snoc (x := ⟨p.1, p.2.1⟩) (by show p.1.size ≤ N; omega) (by show p.2.1.size ≤ N; omega)) (by rw [List.length_append]; show l.length + 1 + q.1.size ≤ N; omega)
theorem small_size (s : ByteArray) : (smallF s).size = s.size := by
 unfold smallF
 rw [mk_size, List.length_map, list_size]
theorem t_msmall (s : ByteArray) (hs : s.size ≤ 1073741840) : EvP (fun _ => mime_small.f s) (fun r => r.size = s.size) := EvP.cst (by unfold mime_small.f; rw [if_pos (by omega)]) (small_size s)
theorem t_Trim (s : ByteArray) (hs : s.size ≤ 1073741824) : EvP (fun _ => strings_Trim.f s ⟨#[32, 9]⟩) (fun r => r.size ≤ s.size) :=
 EvP.cst (by unfold strings_Trim.f; rw [if_pos ⟨by omega, by decide, by decide⟩]) (by rw [mk_size, ← list_size]; exact trim_len _ _)
theorem t_Type (s : ByteArray) (hs : s.size ≤ 1073741824) : EvP (fun k => mime_Type.f k s) (TypP s.size) := by
 unfold mime_Type.f
 refine EvP.bind (t_Cut s _ hs) fun c hc => EvP.bind (t_Trim c.1 (by omega)) fun t ht => EvP.bind (t_msmall t (by omega)) fun u hu => EvP.bind (t_kind u (by omega)) fun b _ => EvP.ite (fun _ => ?_) (fun _ => EvP.now _ ⟨Nat.le_add_left 10 _, (fun x h => nomatch h), Nat.zero_le _⟩)
 exact t_Type_l s.size hs u (by omega) (c.2.1.size + 1) c.2.1 _ [] (Nat.lt_succ_self _) (fun x h => nomatch h) (by simp only [List.length_nil]; omega)
theorem t_Param (N : Nat) (a : ByteArray) (l : List S43) (hf : Fit N l) (hN : N ≤ 1073741824) (hl : l.length ≤ 1099511627776) : EvP (fun k => mime_Param.f k l a) (fun r => r.1.size ≤ N) := by
 unfold mime_Param.f
 exact EvP.bind (t_Find N a l hf hN hl) fun _ h => EvP.now _ h
theorem t_or (N : Nat) (a c : ByteArray) (b : Int) (ha : a.size ≤ N) (hc : c.size ≤ N) (hN : N ≤ 1073741840) : EvP (fun _ => mime_or.f a b c) (fun r => r.size ≤ N) := by
 unfold mime_or.f
 exact EvP.ite (fun _ => EvP.bind (t_msmall a (by omega)) fun r hr => EvP.now _ (by show r.size ≤ N; omega)) (fun _ => EvP.now _ hc)
theorem t_TrimSuffix (s t : ByteArray) (hs : s.size ≤ 1073741824) : EvP (fun _ => strings_TrimSuffix.f s t) (fun r => r.size ≤ s.size) := EvP.cst (by unfold strings_TrimSuffix.f; rw [if_pos (by omega)]) (trimSuffix_size s t)
theorem t_Line (s : ByteArray) (hs : s.size ≤ 1073741824) : EvP (fun _ => head_Line.f s) (fun r => r.1.size + r.2.size ≤ s.size ∧ (0 < s.size → r.2.size < s.size)) := by
 unfold head_Line.f
 refine EvP.bind (t_Cut s _ hs) fun c hc => EvP.ite (fun _ => EvP.bind (t_TrimSuffix c.1 _ (by omega)) fun t ht => EvP.now _ ⟨?_, fun h => hc.2 (by decide) h⟩) (fun _ => EvP.now _ ⟨hc.1, fun h => hc.2 (by decide) h⟩)
 show t.size + c.2.1.size ≤ s.size
 omega
theorem t_TrimRight (s : ByteArray) (hs : s.size ≤ 1073741824) : EvP (fun _ => strings_TrimRight.f s ⟨#[32, 9]⟩) (fun r => r.size ≤ s.size) :=
 EvP.cst (by unfold strings_TrimRight.f; rw [if_pos ⟨by omega, by decide, by decide⟩]) (by rw [mk_size, ← list_size]; exact trimRight_len _ _)
theorem t_CutSuffix (s t : ByteArray) (hs : s.size ≤ 1073741824) : EvP (fun _ => strings_CutSuffix.f s t) (fun r => r.1.size ≤ s.size) := EvP.cst (by unfold strings_CutSuffix.f; rw [if_pos (by omega)]) (trimSuffix_size s t)
theorem t_cut (s : ByteArray) (hs : s.size ≤ 1073741824) : EvP (fun _ => mime_cut.f s) (fun r => r.size ≤ s.size) := by
 unfold mime_cut.f
 exact EvP.bind (t_CutSuffix s _ hs) fun c hc => EvP.ite (fun _ => EvP.bind (t_TrimSuffix c.1 _ (by omega)) fun t ht => EvP.now _ (Nat.le_trans ht hc)) (fun _ => EvP.now _ hc)
def Few (N : Nat) (l : List ByteArray) : Prop := (∀ x ∈ l, x.size ≤ N) ∧ l.length ≤ N + 1
theorem fit_snoc {N : Nat} {l : List ByteArray} (h : ∀ x ∈ l, x.size ≤ N) {x : ByteArray} (hx : x.size ≤ N) : ∀ y ∈ l ++ [x], y.size ≤ N := by
 intro y hy
 rcases List.mem_append.1 hy with hy | hy
 · exact h y hy
 ·
  obtain rfl := List.mem_singleton.1 hy
  exact hx
theorem t_pieces_l (s b : ByteArray) (hs : s.size ≤ 1073741824) (hb : b.size ≤ 1073741824) : ∀ (m : Nat) (l : List ByteArray) (at_ : Int) (r : ByteArray), r.size < m → (∀ x ∈ l, x.size ≤ s.size) → l.length + r.size ≤ s.size → r.size ≤ s.size → (0 ≤ at_ → at_ + r.size ≤ s.size) →
  EvP (fun k => mime_pieces.l0 k s b l at_ r) (Few s.size) := by
 intro m
 induction m with
 | zero => intro l at_ r h; omega
 | succ m ih =>
  intro l at_ r hm hl hn hr ha
  refine EvP.step (fun k => by rw [mime_pieces.l0]) ?_
  refine EvP.ite (fun _ => EvP.ite (fun h0 => EvP.yes (by omega) (EvP.yes (by omega) (EvP.yes (by omega) (EvP.now _ ⟨fit_snoc hl ?_, ?_⟩)))) (fun _ => EvP.now _ ⟨hl, by omega⟩)) (fun hne => ?_)
  ·
   rw [ext_size]
   omega
  ·
   rw [List.length_append]
   show l.length + 1 ≤ s.size + 1
   omega
  ·
   have hpos := size_of_some hne
   refine EvP.bind (t_Line r (by omega)) fun p hp => EvP.bind (t_TrimRight p.1 (by omega)) fun t ht => EvP.yes (by omega) (EvP.bind (t_CutPrefix t _) fun q hq => ?_)
   have hless := hp.2 hpos
   have hw : wrap64 ((s.size : Int) - (r.size : Int)) = (s.size : Int) - (r.size : Int) := wrap64_id _ (by omega) (by omega)
   have hw2 : wrap64 ((s.size : Int) - (p.2.size : Int)) = (s.size : Int) - (p.2.size : Int) := wrap64_id _ (by omega) (by omega)
   rw [hw]
   have J : ∀ x : Bool, EvP (fun k => mime_pieces.j1 k s b l at_ p.2 ((s.size : Int) - (r.size : Int)) p.2 q.1 x) (Few s.size) := by
    intro x
    refine EvP.step (fun k => by rw [mime_pieces.j1]) ?_
    rw [hw2]
    refine EvP.ite (fun _ => ih l at_ p.2 (by omega) hl (by omega) (by omega) (fun h => by have := ha h; omega)) (fun _ => ?_)
    refine EvP.ite (fun h0 => EvP.yes (by omega) (EvP.yes (by have := ha h0; omega) (EvP.yes (by omega) ?_))) (fun _ => ?_)
    ·
     have hz : (s.extract at_.toNat ((s.size : Int) - (r.size : Int)).toNat).size ≤ s.size := by rw [ext_size]; omega
     refine EvP.bind (t_cut _ (by omega)) fun u hu => EvP.yes (by omega) (EvP.bind (EvP.now _ rfl) fun y hy => ?_)
     have hy' : y = l ++ [u] := hy.symm
     have hl' : ∀ x ∈ y, x.size ≤ s.size := by rw [hy']; exact fit_snoc hl (by omega)
     have hn' : y.length = l.length + 1 := by rw [hy', List.length_append]; rfl
     exact EvP.ite (fun _ => ih y _ p.2 (by omega) hl' (by omega) (by omega) (fun _ => by omega)) (fun _ => EvP.now _ ⟨hl', by omega⟩)
    · exact EvP.ite (fun _ => ih l _ p.2 (by omega) hl (by omega) (by omega) (fun _ => by omega)) (fun _ => EvP.now _ ⟨hl, by omega⟩)
   exact EvP.ite (fun _ => EvP.ite (fun _ => J _) (fun _ => J _)) (fun _ => J _)
theorem t_pieces (s b : ByteArray) (hs : s.size ≤ 1073741824) (hb : b.size ≤ 1073741824) : EvP (fun k => mime_pieces.f k s b) (Few s.size) := by
 unfold mime_pieces.f
 exact t_pieces_l s b hs hb (s.size + 1) [] (-1) s (Nat.lt_succ_self _) (fun x h => by cases h) (by simp only [List.length_nil]; omega) (Nat.le_refl _) (fun h => by omega)
def NodeP (N : Nat) (n : Txt.Node) : Prop := n.part.f1.size ≤ N + 10 ∧ n.part.f2.size ≤ N + 10 ∧ n.part.f4.size = 0 ∧ Fit N n.set ∧ n.set.length ≤ N ∧ n.body.size ≤ N
theorem t_open (N : Nat) (hN : N ≤ 1073741824) (s : ByteArray) (hs : s.size ≤ N) (lv : Int) : EvP (fun k => openF (mime_Parts.mf k) s lv) (NodeP N) := by
 unfold openF
 have hp := parse_fit s
 have hf : Fit N (parseF s).1 := fun x hx => ⟨Nat.le_trans (hp.1 x hx).1 hs, Nat.le_trans (hp.1 x hx).2 hs⟩
 refine EvP.bind (t_Find N sCT _ hf hN (by omega)) fun ct hct => EvP.bind (t_Type ct.1 (by omega)) fun t ht => ?_
 obtain ⟨ht1, ht2, ht3⟩ := ht
 have ht2' : Fit N t.2 := fun x hx => ⟨Nat.le_trans (ht2 x hx).1 hct, Nat.le_trans (ht2 x hx).2 hct⟩
 refine EvP.bind (t_Param N sCharset t.2 ht2' hN (by omega)) fun cs hcs => EvP.bind (t_or (N + 10) cs.1 sAscii cs.2 (by omega) (Nat.le_trans (by decide : sAscii.size ≤ 10) (by omega)) (by omega)) fun ch hch => ?_
 refine EvP.bind (t_Find N sCTE _ hf hN (by omega)) fun ce hce => EvP.bind (t_or (N + 10) ce.1 sBit ce.2 (by omega) (Nat.le_trans (by decide : sBit.size ≤ 10) (by omega)) (by omega)) fun co hco => ?_
 refine EvP.now _ ⟨by show t.1.size ≤ N + 10; omega, hch, rfl, ht2', by show t.2.length ≤ N; omega, ?_⟩
 show (s.extract _ _).size ≤ N
 rw [ext_size]
 omega
theorem t_kids (N : Nat) (hN : N ≤ 1073741824) (n : Txt.Node) (h : NodeP N n) : EvP (fun k => kidsF (mime_Parts.mf k) n) (Few N) := by
 obtain ⟨h1, h2, h4, hs, hl, hb⟩ := h
 have no : Few N [] := ⟨(fun x hx => nomatch hx), Nat.zero_le _⟩
 unfold kidsF
 refine EvP.ite (fun _ => EvP.now _ no) (fun _ => EvP.ite (fun _ => EvP.now _ ⟨fun x hx => ?_, ?_⟩) (fun _ => EvP.ite (fun _ => ?_) (fun _ => EvP.now _ no)))
 ·
  obtain rfl := List.mem_singleton.1 hx
  exact hb
 ·
  show 1 ≤ N + 1
  omega
 ·
  refine EvP.bind (t_Param N sBound n.set hs hN (by omega)) fun b hb' => EvP.ite (fun _ => ?_) (fun _ => EvP.now _ no)
  exact (t_pieces n.body b.1 (by omega) (by omega)).imp fun r hr => ⟨fun x hx => Nat.le_trans (hr.1 x hx) hb, by have := hr.2; omega⟩
def PartP (N : Nat) (x : S53) : Prop := x.f2.size ≤ N + 10 ∧ x.f4.size ≤ N
theorem t_parts_l (N : Nat) (hN : N ≤ 1073741824) : ∀ (m : Nat) (st : List (ByteArray × Int)) (out : List S53), m + out.length = 257 → out.length ≤ 256 → (∀ x ∈ st, x.1.size ≤ N) → (∀ x ∈ out, PartP N x) → EvP (fun k => partsL (mime_Parts.mf k) m st out) (fun r => (∀ x ∈ r, PartP N x) ∧ r.length ≤ 257) := by
 intro m
 induction m with
 | zero =>
  intro st out hm hl hst hout
  unfold partsL
  omega
 | succ m ih =>
  intro st out hm hl hst hout
  unfold partsL
  refine EvP.ite (fun _ => EvP.now _ ⟨hout, by omega⟩) (fun h => ?_)
  have hz : (st.getD (st.length - 1) z96).1.size ≤ N := by
   rw [List.getD_eq_getElem?_getD]
   cases e : st[st.length - 1]? with
   | none => exact Nat.zero_le _
   | some x => exact hst x (List.mem_of_getElem? e)
  refine EvP.yes (by omega) (EvP.bind (t_open N hN _ hz _) fun n hn => EvP.bind (t_kids N hN n hn) fun ks hks => EvP.yes (by have := hks.2; omega) ?_)
  refine ih _ _ (by rw [List.length_append]; show m + (out.length + 1) = 257; omega) (by rw [List.length_append]; show out.length + 1 ≤ 256; omega) ?_ ?_
  ·
   intro x hx
   rcases List.mem_append.1 hx with hx | hx
   · exact hst x (List.mem_of_mem_take hx)
   ·
    obtain ⟨b, hb, rfl⟩ := List.mem_map.1 hx
    exact hks.1 b (List.mem_reverse.1 hb)
  ·
   intro x hx
   rcases List.mem_append.1 hx with hx | hx
   · exact hout x hx
   ·
    obtain rfl := List.mem_singleton.1 hx
    obtain ⟨h1, h2, h4, _, _, hb⟩ := hn
    unfold partOf
    split
    · exact ⟨h2, hb⟩
    · exact ⟨h2, by omega⟩
theorem t_parts (s : ByteArray) (hs : s.size ≤ 1073741824) : EvP (fun k => mime_Parts.f k s) (fun r => (∀ x ∈ r, PartP s.size x) ∧ r.length ≤ 257) := by
 unfold mime_Parts.f partsF
 exact t_parts_l s.size hs 257 [(s, 0)] [] rfl (Nat.zero_le _) (fun x hx => by obtain rfl := List.mem_singleton.1 hx; exact Nat.le_refl _) (fun x hx => by cases hx)
theorem t_FromQuoted (s : ByteArray) (hs : s.size ≤ 1073741824) : EvP (fun _ => enc_FromQuoted.f s) (fun r => r.1.size ≤ s.size) := EvP.cst (by unfold enc_FromQuoted.f; rw [if_pos (by omega)]) (fromQuoted_size s)
theorem t_mBytes (a : Int) (b c d s : ByteArray) (hs : s.size ≤ 1073741824) : EvP (fun _ => mime_Bytes.f a b c d s) (fun r => r.1.size ≤ s.size) := by
 unfold mime_Bytes.f
 exact EvP.ite (fun _ => EvP.bind (t_FromBase64 s hs) fun _ h => EvP.now _ h) (fun _ => EvP.ite (fun _ => EvP.bind (t_FromQuoted s hs) fun _ h => EvP.now _ h) (fun _ => EvP.now _ (Nat.le_refl _)))
theorem t_mLetters (a : Int) (b c d s : ByteArray) (hs : s.size ≤ 1073741824) (hc : c.size ≤ 1073741824) : EvP (fun k => mime_Letters.f k a b c d s) (fun r => r.1.length ≤ s.size) := by
 unfold mime_Letters.f
 refine EvP.bind (t_HasPrefix b _) fun _ _ => EvP.ite (fun _ => EvP.bind (t_Named c hc) fun n _ => EvP.ite (fun _ => ?_) (fun _ => ?_)) (fun _ => EvP.now _ (Nat.zero_le _))
 · exact EvP.bind (t_mBytes a b c d s hs) fun p hp => EvP.bind (t_Decode _ _ (by omega)) fun q hq => EvP.now _ (Nat.le_trans hq hp)
 · exact EvP.bind (t_mBytes a b c d s hs) fun p hp => EvP.bind (t_Decode _ _ (by omega)) fun q hq => EvP.now _ (Nat.le_trans hq hp)
def Fold (N : Nat) (x : ByteArray) : Prop := ∃ l : List Int, l.length ≤ N ∧ x = whatF l
theorem Fold.size {N : Nat} {x : ByteArray} (h : Fold N x) : x.size ≤ 4 * N := by
 obtain ⟨l, hl, rfl⟩ := h
 have := whatF_size l
 omega
theorem Fold.name {N : Nat} {s : ByteArray} (h : s.size ≤ N) : Fold N (nameF s) := ⟨_, Nat.le_trans (lettersF_len _ _) h, rfl⟩
abbrev Doc := Int × Int × Bool × List ByteArray × List ByteArray × List ByteArray
structure DocP (N : Nat) (r : Doc) : Prop where
 names : ∀ x ∈ r.2.2.2.1, Fold N x
 values : ∀ x ∈ r.2.2.2.2.1, Fold N x
 body : ∀ x ∈ r.2.2.2.2.2, Fold N x
 nlen : r.2.2.2.1.length ≤ 1024
 vlen : r.2.2.2.2.1.length = r.2.2.2.1.length
 blen : r.2.2.2.2.2.length ≤ 257
theorem fold_snoc {N : Nat} {l : List ByteArray} (h : ∀ x ∈ l, Fold N x) {x : ByteArray} (hx : Fold N x) : ∀ y ∈ l ++ [x], Fold N y := by
 intro y hy
 rcases List.mem_append.1 hy with hy | hy
 · exact h y hy
 ·
  obtain rfl := List.mem_singleton.1 hy
  exact hx
theorem rd53_part {N : Nat} {l : List S53} (h : ∀ x ∈ l, PartP N x) (i : Int) : PartP N (rd_T53 l i) := by
 unfold rd_T53
 rw [List.getD_eq_getElem?_getD]
 cases e : l[i.toNat]? with
 | none => exact ⟨Nat.zero_le _, Nat.zero_le _⟩
 | some x => exact h x (List.mem_of_getElem? e)
theorem t_Read_b (N : Nat) (hN : N ≤ 1048576) (ps : List S53) (hp : ∀ x ∈ ps, PartP N x) (hl : ps.length ≤ 257) (a b : Int) (c : Bool) (ns vs : List ByteArray) (hn : ∀ x ∈ ns, Fold N x) (hv : ∀ x ∈ vs, Fold N x) (h1 : ns.length ≤ 1024) (h2 : vs.length = ns.length) :
  ∀ (d i : Nat) (bs : List ByteArray), i + d = ps.length → bs.length ≤ i → (∀ x ∈ bs, Fold N x) → EvP (fun k => mail_Read.l1 k ps (ps.length : Int) (i : Int) a b c ns vs bs) (DocP N) := by
 intro d
 induction d with
 | zero =>
  intro i bs hi hb hf
  refine EvP.step (fun k => by rw [mail_Read.l1]) ?_
  exact EvP.not (by omega) (EvP.now _ ⟨hn, hv, hf, h1, h2, by show bs.length ≤ 257; omega⟩)
 | succ d ih =>
  intro i bs hi hb hf
  have hx := rd53_part hp (i : Int)
  refine EvP.step (fun k => by rw [mail_Read.l1]) ?_
  rw [wrap64_succ i (by omega)]
  refine EvP.yes (by omega) (EvP.yes (by omega) (EvP.yes (by omega) (EvP.bind (t_mLetters _ _ _ _ _ (by have := hx.2; omega) (by have := hx.1; omega)) fun q hq => EvP.ite (fun _ => ?_) (fun _ => ih (i + 1) bs (by omega) (by omega) hf))))
  have hq' : q.1.length ≤ N := Nat.le_trans hq hx.2
  refine EvP.bind (Ev.p (ev_What q.1 (by omega))) fun t ht => EvP.yes (by omega) (ih (i + 1) _ (by omega) (by rw [List.length_append]; show bs.length + 1 ≤ i + 1; omega) (fold_snoc hf ⟨q.1, hq', ht⟩))
theorem t_Read_j (s : ByteArray) (hs : s.size ≤ 1048576) (a b : Int) (c : Bool) (ns vs : List ByteArray) (hn : ∀ x ∈ ns, Fold s.size x) (hv : ∀ x ∈ vs, Fold s.size x) (h1 : ns.length ≤ 1024) (h2 : vs.length = ns.length) : EvP (fun k => mail_Read.j1 k s a b c ns vs) (DocP s.size) := by
 refine EvP.step (fun k => by rw [mail_Read.j1]) ?_
 exact EvP.bind (t_parts s (by omega)) fun ps hp => t_Read_b s.size hs ps hp.1 hp.2 a b c ns vs hn hv h1 h2 ps.length 0 [] (by omega) (Nat.zero_le _) (fun x hx => nomatch hx)
theorem t_Read_l (s : ByteArray) (hs : s.size ≤ 1048576) (fs : List S43) (hf : Fit s.size fs) (hl : fs.length ≤ 1024) (a b : Int) (c : Bool) :
  ∀ (d i : Nat) (ns vs : List ByteArray), i + d = fs.length → ns.length = i → vs.length = i → (∀ x ∈ ns, Fold s.size x) → (∀ x ∈ vs, Fold s.size x) → EvP (fun k => mail_Read.l0 k s fs fs (fs.length : Int) (i : Int) a b c ns vs) (DocP s.size) := by
 intro d
 induction d with
 | zero =>
  intro i ns vs hi h1 h2 hn hv
  refine EvP.step (fun k => by rw [mail_Read.l0]) ?_
  refine EvP.not (by omega) (EvP.bind (t_Find s.size _ fs hf (by omega) (by omega)) fun p hp => EvP.ite (fun _ => EvP.bind (t_Mail p.1 (by omega)) fun q _ => ?_) (fun _ => ?_))
  · exact t_Read_j s hs _ _ _ ns vs hn hv (by omega) (by omega)
  · exact t_Read_j s hs _ _ _ ns vs hn hv (by omega) (by omega)
 | succ d ih =>
  intro i ns vs hi h1 h2 hn hv
  have hx := rd43_fit hf (i : Int)
  refine EvP.step (fun k => by rw [mail_Read.l0]) ?_
  rw [wrap64_succ i (by omega)]
  refine EvP.yes (by omega) (EvP.yes (by omega) (EvP.yes (by omega) (EvP.bind (Ev.p (ev_name (rd_T43 fs (i : Int)).f0 (by omega))) fun t ht => EvP.yes (by omega) (EvP.bind (t_wDecode (rd_T43 fs (i : Int)).f1 (by omega)) fun q hq => EvP.bind (Ev.p (ev_What q (by omega))) fun u hu => EvP.yes (by omega) ?_))))
  exact ih (i + 1) _ _ (by omega) (by rw [List.length_append]; show ns.length + 1 = i + 1; omega) (by rw [List.length_append]; show vs.length + 1 = i + 1; omega) (fold_snoc hn (ht ▸ Fold.name hx.1)) (fold_snoc hv ⟨q, by omega, hu⟩)
theorem t_Read (s : ByteArray) (hs : s.size ≤ 1048576) : EvP (fun k => mail_Read.f k s) (DocP s.size) := by
 unfold mail_Read.f
 exact EvP.bind (t_Parse s (by omega)) fun p hp => t_Read_l s hs p.1 hp.1 hp.2 _ _ _ p.1.length 0 [] [] (by omega) rfl rfl (fun x hx => nomatch hx) (fun x hx => nomatch hx)
theorem contains_iff (s t : List UInt8) : Lib.contains s t = true ↔ t <:+: s := by
 unfold Lib.contains
 rw [decide_eq_true_iff]
 constructor
 ·
  intro h
  rcases Lib.index_spec s t with ⟨h1, _⟩ | ⟨i, h1, h2, h3, _⟩
  · omega
  ·
   unfold Lib.occAt at h3
   obtain ⟨r, hr⟩ := List.isPrefixOf_iff_prefix.1 h3
   exact ⟨s.take i, r, by rw [List.append_assoc, hr, List.take_append_drop]⟩
 ·
  rintro ⟨a, b, rfl⟩
  rcases Lib.index_spec (a ++ t ++ b) t with ⟨_, h2⟩ | ⟨i, h1, _, _, _⟩
  ·
   have := h2 a.length (by simp only [List.length_append]; omega)
   unfold Lib.occAt at this
   rw [List.append_assoc, List.drop_left] at this
   exact absurd (List.isPrefixOf_iff_prefix.2 (List.prefix_append t b)) (by rw [this]; decide)
  · omega
theorem hasB_iff (t s : ByteArray) : hasB t s = true ↔ t.data.toList <:+: s.data.toList := contains_iff _ _
theorem hasF_iff (l : List ByteArray) (t : ByteArray) : hasF l t = true ↔ ∃ s ∈ l, t.data.toList <:+: s.data.toList := by
 unfold hasF
 rw [List.any_eq_true]
 exact exists_congr fun s => and_congr_right fun _ => hasB_iff t s
theorem ba_append (a b : ByteArray) : (a ++ b).data.toList = a.data.toList ++ b.data.toList := by
 rw [ByteArray.data_append]
 simp
def valueF (vs : List ByteArray) (i : Nat) : ByteArray := rdOf ByteArray.empty vs (i : Int)
theorem ev_value (a b : Int) (c : Bool) (ns vs bs : List ByteArray) (i : Nat) : mail_value.f a b c ns vs bs (i : Int) = some (valueF vs i) := by
 unfold mail_value.f valueF
 by_cases h : (i : Int) ≥ (vs.length : Int)
 ·
  rw [if_pos h]
  unfold rdOf
  rw [List.getD_eq_getElem?_getD, List.getElem?_eq_none (by omega)]
  rfl
 · rw [if_neg h, if_pos (by omega), if_pos (by omega)]
def lineT (ns vs : List ByteArray) (i : Nat) : ByteArray := (rdOf ByteArray.empty ns (i : Int) ++ (⟨#[58, 32]⟩ : ByteArray)) ++ valueF vs i
def linesF (ns vs : List ByteArray) : List ByteArray := (List.range ns.length).map (lineT ns vs)
theorem linesF_len (ns vs : List ByteArray) : (linesF ns vs).length = ns.length := by unfold linesF; rw [List.length_map, List.length_range]
theorem rdOf_all {P : ByteArray → Prop} {l : List ByteArray} (h : ∀ x ∈ l, P x) (h0 : P ByteArray.empty) (i : Int) : P (rdOf ByteArray.empty l i) := by
 unfold rdOf
 rw [List.getD_eq_getElem?_getD]
 cases e : l[i.toNat]? with
 | none => exact h0
 | some x => exact h x (List.mem_of_getElem? e)
theorem empty_fold (N : Nat) : Fold N ByteArray.empty := ⟨[], Nat.zero_le _, rfl⟩
theorem ev_lines_l (N : Nat) (hN : N ≤ 1048576) (a b : Int) (c : Bool) (ns vs bs : List ByteArray) (hn : ∀ x ∈ ns, Fold N x) (hv : ∀ x ∈ vs, Fold N x) (hl : ns.length ≤ 1024) :
  ∀ (d i : Nat), i + d = ns.length → EvP (fun k => mail_lines.l0 k ((linesF ns vs).take i ++ List.replicate d (⟨#[]⟩ : ByteArray)) ns (ns.length : Int) (i : Int) a b c ns vs bs) (fun r => r = linesF ns vs) := by
 intro d
 induction d with
 | zero =>
  intro i hi
  refine EvP.step (fun k => by rw [mail_lines.l0]) ?_
  refine EvP.not (by omega) (EvP.now _ ?_)
  rw [List.take_of_length_le (by rw [linesF_len]; omega), List.replicate_zero, List.append_nil]
 | succ d ih =>
  intro i hi
  have h1 := (rdOf_all hn (empty_fold N) (i : Int)).size
  have h2 := (rdOf_all hv (empty_fold N) (i : Int)).size
  have hlen : ((linesF ns vs).take i ++ List.replicate (d + 1) (⟨#[]⟩ : ByteArray)).length = ns.length := by rw [List.length_append, List.length_take, linesF_len, List.length_replicate]; omega
  have hset : ((linesF ns vs).take i ++ List.replicate (d + 1) (⟨#[]⟩ : ByteArray)).set i (lineT ns vs i) = (linesF ns vs).take (i + 1) ++ List.replicate d (⟨#[]⟩ : ByteArray) := by
   rw [List.set_append_right _ _ (by rw [List.length_take, linesF_len]; omega), List.length_take, linesF_len, show i - min i ns.length = 0 from by omega, List.replicate_succ, List.set_cons_zero, List.take_succ_eq_append_getElem (by rw [linesF_len]; omega)]
   unfold linesF
   simp
  refine EvP.step (fun k => by rw [mail_lines.l0]) ?_
  rw [wrap64_succ i (by omega), ev_value]
  refine EvP.yes (by omega) (EvP.yes (by omega) (EvP.yes (by omega) (EvP.yes (by omega) (EvP.bind (EvP.now _ rfl) fun v hv' => ?_))))
  have hv'' : v = valueF vs i := hv'.symm
  subst hv''
  refine EvP.yes (by rw [ByteArray.size_append]; show _ + 2 + _ ≤ _; unfold valueF; omega) (EvP.yes (by omega) ?_)
  have e : (i : Int).toNat = i := Int.toNat_natCast i
  rw [e]
  show EvP (fun k => mail_lines.l0 k (((linesF ns vs).take i ++ List.replicate (d + 1) (⟨#[]⟩ : ByteArray)).set i (lineT ns vs i)) ns (ns.length : Int) ((i + 1 : Nat) : Int) a b c ns vs bs) _
  rw [hset]
  exact ih (i + 1) (by omega)
theorem ev_lines {N : Nat} (hN : N ≤ 1048576) {r : Doc} (h : DocP N r) : EvP (fun k => mail_lines.f k r.1 r.2.1 r.2.2.1 r.2.2.2.1 r.2.2.2.2.1 r.2.2.2.2.2) (fun x => x = linesF r.2.2.2.1 r.2.2.2.2.1) := by
 unfold mail_lines.f
 have hl := h.nlen
 rw [Int.toNat_natCast]
 exact EvP.yes (by omega) (EvP.yes (by omega) (ev_lines_l N hN _ _ _ _ _ _ h.names h.values h.nlen r.2.2.2.1.length 0 (by omega)))
theorem line_size {N : Nat} (hN : N ≤ 1048576) {r : Doc} (h : DocP N r) : ∀ x ∈ linesF r.2.2.2.1 r.2.2.2.2.1, x.size ≤ 8 * N + 2 := by
 intro x hx
 obtain ⟨i, _, rfl⟩ := List.mem_map.1 hx
 have h1 := (rdOf_all h.names (empty_fold N) (i : Int)).size
 have h2 := (rdOf_all h.values (empty_fold N) (i : Int)).size
 unfold lineT valueF
 rw [ByteArray.size_append, ByteArray.size_append]
 show _ + 2 + _ ≤ _
 omega
theorem ev_InBody {N : Nat} (hN : N ≤ 1048576) {r : Doc} (h : DocP N r) (t : ByteArray) : EvP (fun _ => mail_InBody.f r.1 r.2.1 r.2.2.1 r.2.2.2.1 r.2.2.2.2.1 r.2.2.2.2.2 t) (fun x => x = hasF r.2.2.2.2.2 t) := by
 unfold mail_InBody.f
 refine EvP.bind (P := fun x => x = hasF r.2.2.2.2.2 t) (EvP.cst ?_ rfl) fun x hx => EvP.now _ hx
 unfold mail_has.f
 rw [if_pos]
 intro s hs
 have := (h.body s hs).size
 omega
def textF (r : Doc) (t : ByteArray) : Bool := hasF (linesF r.2.2.2.1 r.2.2.2.2.1) t || hasF r.2.2.2.2.2 t
theorem ev_InText {N : Nat} (hN : N ≤ 1048576) {r : Doc} (h : DocP N r) (t : ByteArray) : EvP (fun k => mail_InText.f k r.1 r.2.1 r.2.2.1 r.2.2.2.1 r.2.2.2.2.1 r.2.2.2.2.2 t) (fun x => x = textF r t) := by
 unfold mail_InText.f
 refine EvP.bind (ev_lines hN h) fun ls hls => EvP.bind (P := fun x => x = hasF ls t) (EvP.cst ?_ rfl) fun x hx => EvP.ite (fun hx1 => EvP.now _ ?_) (fun hx1 => ?_)
 ·
  unfold mail_has.f
  rw [if_pos]
  intro s hs
  have := line_size hN h s (hls ▸ hs)
  omega
 ·
  unfold textF
  rw [← hls, ← hx, hx1]
  rfl
 ·
  refine EvP.bind (ev_InBody hN h t) fun y hy => EvP.now _ ?_
  unfold textF
  rw [← hls, ← hx, ← hy, (Bool.not_eq_true x).mp hx1]
  rfl
theorem ev_InField_l {N : Nat} (hN : N ≤ 1048576) {r : Doc} (h : DocP N r) (t want : ByteArray) :
  ∀ (d i : Nat), i + d = r.2.2.2.1.length → EvP (fun k => mail_InField.l0 k t want r.2.2.2.1 (r.2.2.2.1.length : Int) (i : Int) r.1 r.2.1 r.2.2.1 r.2.2.2.1 r.2.2.2.2.1 r.2.2.2.2.2) (fun x => x = true → ∃ j, j < r.2.2.2.1.length ∧ hasB t (valueF r.2.2.2.2.1 j) = true) := by
 have hl := h.nlen
 intro d
 induction d with
 | zero =>
  intro i hi
  refine EvP.step (fun k => by rw [mail_InField.l0]) ?_
  exact EvP.not (by omega) (EvP.now _ (fun h => absurd h (by decide)))
 | succ d ih =>
  intro i hi
  refine EvP.step (fun k => by rw [mail_InField.l0]) ?_
  rw [wrap64_succ i (by omega), ev_value]
  refine EvP.yes (by omega) (EvP.yes (by omega) (EvP.yes (by omega) (EvP.ite (fun _ => EvP.bind (P := fun v => v = valueF r.2.2.2.2.1 i) (EvP.now _ rfl) fun v hv => ?_) (fun _ => ih (i + 1) (by omega)))))
  subst hv
  have h2 := (rdOf_all h.values (empty_fold N) (i : Int)).size
  refine EvP.bind (P := fun x => x = hasB t (valueF r.2.2.2.2.1 i)) (EvP.cst (by unfold strings_Contains.f; rw [if_pos (by unfold valueF; omega)]; rfl) rfl) fun x hx => EvP.ite (fun hx1 => EvP.now _ (fun _ => ⟨i, by omega, hx ▸ hx1⟩)) (fun _ => ih (i + 1) (by omega))
theorem ev_InField {N : Nat} (hN : N ≤ 1048576) {r : Doc} (h : DocP N r) (name t : ByteArray) (hs : name.size ≤ 1048576) : EvP (fun k => mail_InField.f k r.1 r.2.1 r.2.2.1 r.2.2.2.1 r.2.2.2.2.1 r.2.2.2.2.2 name t) (fun x => x = true → textF r t = true) := by
 unfold mail_InField.f
 refine EvP.bind (Ev.p (ev_name name (by omega))) fun want _ => (ev_InField_l hN h t want r.2.2.2.1.length 0 (by omega)).imp fun x hx hx1 => ?_
 obtain ⟨j, hj, hb⟩ := hx hx1
 unfold textF
 rw [Bool.or_eq_true]
 refine .inl ((hasF_iff _ _).2 ⟨lineT r.2.2.2.1 r.2.2.2.2.1 j, List.mem_map.2 ⟨j, List.mem_range.2 hj, rfl⟩, ?_⟩)
 have := (hasB_iff _ _).1 hb
 unfold lineT
 rw [ba_append]
 exact this.trans (List.suffix_append _ _).isInfix
theorem textF_less (r : Doc) (l : List Int) (n : Nat) (h : textF r (whatF l) = true) : textF r (whatF (l.take n)) = true := by
 have hp : (whatF (l.take n)).data.toList <:+: (whatF l).data.toList := by
  unfold whatF utf8F utf8L
  simp only []
  exact ⟨[], ((l.drop n).map oneF).flatMap Lib.encodeRune, by rw [List.nil_append, ← List.flatMap_append, ← List.map_append, List.take_append_drop]⟩
 unfold textF at h ⊢
 rw [Bool.or_eq_true] at h ⊢
 exact h.imp (fun h => by obtain ⟨s, hs, h⟩ := (hasF_iff _ _).1 h; exact (hasF_iff _ _).2 ⟨s, hs, hp.trans h⟩) (fun h => by obtain ⟨s, hs, h⟩ := (hasF_iff _ _).1 h; exact (hasF_iff _ _).2 ⟨s, hs, hp.trans h⟩)
theorem bodyF_less (bs : List ByteArray) (l : List Int) (n : Nat) (h : hasF bs (whatF l) = true) : hasF bs (whatF (l.take n)) = true := by
 have hp : (whatF (l.take n)).data.toList <:+: (whatF l).data.toList := by
  unfold whatF utf8F utf8L
  simp only []
  exact ⟨[], ((l.drop n).map oneF).flatMap Lib.encodeRune, by rw [List.nil_append, ← List.flatMap_append, ← List.map_append, List.take_append_drop]⟩
 obtain ⟨s, hs, h⟩ := (hasF_iff _ _).1 h
 exact (hasF_iff _ _).2 ⟨s, hs, hp.trans h⟩
def partsT (s : ByteArray) : List Int := Plain.norm (Go.Proofs.YtigcbajcifhinaaGreatDoor.Fold.outF (Go.Proofs.YtigcbajcifhinaaGreatDoor.Fold.lettersF s.size s) (Go.Proofs.YtigcbajcifhinaaGreatDoor.Fold.lettersF s.size s).length)
theorem partsT_len (s : ByteArray) : (partsT s).length ≤ s.size := by
 unfold partsT
 exact Nat.le_trans (Plain.norm_facts _).2.2 (Nat.le_trans (Go.Proofs.YtigcbajcifhinaaGreatDoor.Fold.outF_length _ _) (lettersF_len _ _))
def gramsT (l : List ByteArray) : List Int := Plain.norm (l.map partsT).flatten
theorem flatten_le {α : Type} (N : Nat) : ∀ l : List (List α), (∀ x ∈ l, x.length ≤ N) → l.flatten.length ≤ l.length * N
 | [], _ => by simp
 | x :: l, h => by
  have h1 := h x List.mem_cons_self
  have h2 := flatten_le N l fun y hy => h y (List.mem_cons_of_mem _ hy)
  rw [List.flatten_cons, List.length_append, List.length_cons, Nat.succ_mul]
  omega
theorem ev_Grams_l (N : Nat) (hN : N ≤ 8388612) (l : List ByteArray) (hf : ∀ x ∈ l, x.size ≤ N) (hl : l.length ≤ 1300) :
  ∀ (d i : Nat), i + d = l.length → EvP (fun k => mail_Grams.l0 k ((l.take i).map partsT) l (l.length : Int) (i : Int)) (fun r => r = gramsT l) := by
 intro d
 induction d with
 | zero =>
  intro i hi
  refine EvP.step (fun k => by rw [mail_Grams.l0]) ?_
  rw [List.take_of_length_le (by omega)]
  refine EvP.not (by omega) (EvP.bind (P := fun r => r = gramsT l) (EvP.cst ?_ rfl) fun r hr => EvP.now _ hr)
  unfold mail_rising_uint64.f
  rw [if_pos]
  · rfl
  ·
   have := flatten_le N (l.map partsT) (by
    intro x hx
    obtain ⟨s, hs, rfl⟩ := List.mem_map.1 hx
    exact Nat.le_trans (partsT_len s) (hf s hs))
   rw [List.length_map] at this
   have h2 := Nat.mul_le_mul hl hN
   omega
 | succ d ih =>
  intro i hi
  have hx : (rdOf ByteArray.empty l (i : Int)).size ≤ N := rdOf_all (P := fun x => x.size ≤ N) hf (Nat.zero_le _) (i : Int)
  refine EvP.step (fun k => by rw [mail_Grams.l0]) ?_
  rw [wrap64_succ i (by omega)]
  refine EvP.yes (by omega) (EvP.yes (by omega) (EvP.yes (by omega) ?_))
  have e : (l.take i).map partsT ++ [partsT (rdOf ByteArray.empty l (i : Int))] = (l.take (i + 1)).map partsT := by
   rw [List.take_succ_eq_append_getElem (by omega), List.map_append]
   unfold rdOf
   rw [List.getD_eq_getElem?_getD, Int.toNat_natCast, List.getElem?_eq_getElem (by omega)]
   rfl
  refine EvP.bind (P := fun r => r = Go.Proofs.YtigcbajcifhinaaGreatDoor.Fold.lettersF (rdOf ByteArray.empty l (i : Int)).size (rdOf ByteArray.empty l (i : Int))) (EvP.cst (by unfold runes_Letters.f; rw [if_pos (by omega)]) rfl) fun t ht => EvP.bind (P := fun r => r = partsT (rdOf ByteArray.empty l (i : Int))) (EvP.cst (r := partsT (rdOf ByteArray.empty l (i : Int))) ?_ rfl) fun p hp => EvP.yes (by rw [List.length_map, List.length_take]; omega) ?_
  ·
   subst ht
   unfold fold_Parts.f
   rw [if_pos (by have := lettersF_len (rdOf ByteArray.empty l (i : Int)).size (rdOf ByteArray.empty l (i : Int)); omega)]
   rfl
  ·
   rw [hp, e]
   exact ih (i + 1) (by omega)
def allT (r : Doc) : List ByteArray := linesF r.2.2.2.1 r.2.2.2.2.1 ++ r.2.2.2.2.2
theorem ev_Grams {N : Nat} (hN : N ≤ 1048576) {r : Doc} (h : DocP N r) : EvP (fun k => mail_Grams.f k r.1 r.2.1 r.2.2.1 r.2.2.2.1 r.2.2.2.2.1 r.2.2.2.2.2) (fun x => x = gramsT (allT r)) := by
 unfold mail_Grams.f
 have h1 := h.nlen
 have h2 := h.blen
 have hl : (allT r).length ≤ 1300 := by unfold allT; rw [List.length_append, linesF_len]; omega
 refine EvP.bind (ev_lines hN h) fun ls hls => EvP.bind (P := fun x => x = allT r) (EvP.cst ?_ rfl) fun a ha => ?_
 ·
  unfold slices_Concat_string_string.f
  have e : ([ls, r.2.2.2.2.2] : List (List ByteArray)).flatten = allT r := by rw [hls]; simp [allT]
  rw [e, if_pos (by omega)]
 ·
  rw [ha]
  refine ev_Grams_l (8 * N + 2) (by omega) (allT r) ?_ hl (allT r).length 0 (by omega)
  intro x hx
  rcases List.mem_append.1 hx with hx | hx
  · exact line_size hN h x hx
  ·
   have := (h.body x hx).size
   omega
def note : ByteArray := ⟨#[83, 117, 98, 106, 101, 99, 116, 58, 32, 61, 63, 117, 116, 102, 45, 56, 63, 113, 63, 61, 67, 51, 61, 56, 57, 116, 61, 67, 51, 61, 65, 57, 63, 61, 10, 68, 97, 116, 101, 58, 32, 53, 32, 70, 101, 98, 32, 57, 54, 10, 10, 72, 69, 76, 76, 79, 32, 87, 111, 114, 108, 100]⟩
def noteD : Doc := (62, 9531, true, [⟨#[115, 117, 98, 106, 101, 99, 116]⟩, ⟨#[100, 97, 116, 101]⟩], [⟨#[195, 169, 116, 195, 169]⟩, ⟨#[53, 32, 102, 101, 98, 32, 57, 54]⟩], [⟨#[104, 101, 108, 108, 111, 32, 119, 111, 114, 108, 100]⟩])
theorem note_read : mail_Read.f 100 note = some noteD := by
 have h : (match mail_Read.f 100 note with | some r => decide (r.1 = noteD.1 ∧ r.2.1 = noteD.2.1 ∧ r.2.2.1 = noteD.2.2.1 ∧ r.2.2.2.1.map (·.data) = noteD.2.2.2.1.map (·.data) ∧ r.2.2.2.2.1.map (·.data) = noteD.2.2.2.2.1.map (·.data) ∧ r.2.2.2.2.2.map (·.data) = noteD.2.2.2.2.2.map (·.data)) | none => false) = true := by decide +kernel
 have inj : ∀ {a b : List ByteArray}, a.map (·.data) = b.map (·.data) → a = b := fun h => (List.map_inj_right (fun x y e => by cases x; cases y; exact congrArg ByteArray.mk e)).1 h
 revert h
 cases mail_Read.f 100 note with
 | none => intro h; cases h
 | some r =>
  obtain ⟨r1, r2, r3, r4, r5, r6⟩ := r
  intro h
  obtain ⟨h1, h2, h3, h4, h5, h6⟩ := of_decide_eq_true h
  have e1 : r1 = noteD.1 := h1
  have e2 : r2 = noteD.2.1 := h2
  have e3 : r3 = noteD.2.2.1 := h3
  have e4 : r4 = noteD.2.2.2.1 := inj h4
  have e5 : r5 = noteD.2.2.2.2.1 := inj h5
  have e6 : r6 = noteD.2.2.2.2.2 := inj h6
  rw [e1, e2, e3, e4, e5, e6]
theorem note_doc : DocP 62 noteD := by
 obtain ⟨r, hr, hp⟩ := t_Read note (by decide)
 obtain ⟨K, hK⟩ := hr
 obtain ⟨K2, hK2⟩ := Ev.of (mail_Read.mono note) note_read
 have e := (hK (K + K2) (by omega)).symm.trans (hK2 (K + K2) (by omega))
 injection e with e
 exact e ▸ hp
theorem note_grams : (gramsT (allT noteD)).length = 31 := by
 unfold gramsT partsT
 simp only [Plain.norm_rise]
 decide +kernel
theorem ev_lives : EvP (fun k => missivelaw12_lives.f k) (fun r => r = true) := by
 unfold missivelaw12_lives.f
 refine EvP.bind (Ev.p (Ev.of (mail_Read.mono note) note_read)) fun r hr => ?_
 subst hr
 refine EvP.yes (by decide) (EvP.yes (by decide) (EvP.step (fun k => by rw [missivelaw12_lives.j0]) ?_))
 refine EvP.not (by decide) (EvP.yes (by decide) (EvP.yes (by decide) (EvP.yes (by decide) (EvP.yes (by decide) (EvP.yes (by decide +kernel) (EvP.yes (by decide) (EvP.yes (by decide +kernel) (EvP.yes (by decide) (EvP.yes (by decide +kernel) ?_)))))))))
 have hW : mail_What.f 20 [65, 201] = some ⟨#[97, 195, 169]⟩ := by
  have h : (mail_What.f 20 [65, 201]).map (·.data) = some #[97, 195, 169] := by decide +kernel
  obtain ⟨x, hx, e⟩ := Option.map_eq_some_iff.1 h
  rw [hx]
  cases x
  exact congrArg (fun y => some (ByteArray.mk y)) e
 refine EvP.bind (Ev.p (Ev.of (mail_What.mono _) hW)) fun a ha => ?_
 subst ha
 refine EvP.yes (by decide +kernel) ?_
 have h1 : mail_InField.f 40 noteD.1 noteD.2.1 noteD.2.2.1 noteD.2.2.2.1 noteD.2.2.2.2.1 noteD.2.2.2.2.2 ⟨#[83, 85, 66, 74, 69, 67, 84]⟩ ⟨#[116, 195]⟩ = some true := by decide +kernel
 have h2 : mail_InField.f 40 noteD.1 noteD.2.1 noteD.2.2.1 noteD.2.2.2.1 noteD.2.2.2.2.1 noteD.2.2.2.2.2 ⟨#[100, 97, 116, 101]⟩ ⟨#[102, 101, 98, 32, 57, 55]⟩ = some false := by decide +kernel
 refine EvP.bind (Ev.p (Ev.of (mail_InField.mono _ _ _ _ _ _ _ _) h1)) fun a ha => EvP.yes ha.symm.symm (EvP.bind (Ev.p (Ev.of (mail_InField.mono _ _ _ _ _ _ _ _) h2)) fun a ha => EvP.not (by rw [ha]; decide) ?_)
 refine EvP.bind (ev_InBody (N := 62) (by decide) note_doc _) fun a ha => EvP.yes (by rw [ha]; decide +kernel) (EvP.bind (ev_InText (N := 62) (by decide) note_doc _) fun a ha => EvP.yes (by rw [ha]; decide +kernel) (EvP.bind (ev_InText (N := 62) (by decide) note_doc _) fun a ha => EvP.not (by rw [ha]; decide +kernel) ?_))
 refine EvP.bind (ev_Grams (N := 62) (by decide) note_doc) fun g hg => EvP.now _ ?_
 rw [hg, note_grams]
 rfl
theorem lives_val {k : Nat} {r : Bool} (h : missivelaw12_lives.f k = some r) : r = true := by
 obtain ⟨x, ⟨K, hK⟩, rfl⟩ := ev_lives
 obtain ⟨K2, hK2⟩ := Ev.of missivelaw12_lives.mono h
 have e := (hK2 (K + K2) (by omega)).symm.trans (hK (K + K2) (by omega))
 exact Option.some.inj e
end Go.Proofs.YtigcbajcifhinaaGreatDoor.Tot
namespace Go.Proofs.YtigcbajcifhinaaGreatDoor.V
open Go.RowKit Go.Proofs.YtigcbajcifhinaaGreatDoorW.PrintWords Go.Proofs.YtigcbajcifhinaaGreatDoorW.PrintLast Go.Proofs.YtigcbajcifhinaaGreatDoorW.PrintMore
attribute [local go_sem] max2_int min2_int max_two min_two max_three min_three max_four min_four
theorem missivelaw12_lives.calls (k : Nat)  (r : Bool) (w : World) (hT : Tabs w) (h : missivelaw12_lives.f k  = some r) :
  Calls Tryz.prog 6 #[] w fun e w' => e = .returned (.bool r) ∧ Below w.heap.size w w' := by
 have hr : r = true := Go.Proofs.YtigcbajcifhinaaGreatDoor.Tot.lives_val h
 have hu26 := Tryz.underlying26
 have HTAB := Aside0.mk hT
 clear hT
 have HB := Aside0.mk (Below.refl w.heap.size w)
 have H : ((mail_Read.f k (⟨#[83, 117, 98, 106, 101, 99, 116, 58, 32, 61, 63, 117, 116, 102, 45, 56, 63, 113, 63, 61, 67, 51, 61, 56, 57, 116, 61, 67, 51, 61, 65, 57, 63, 61, 10, 68, 97, 116, 101, 58, 32, 53, 32, 70, 101, 98, 32, 57, 54, 10, 10, 72, 69, 76, 76, 79, 32, 87, 111, 114, 108, 100]⟩ : ByteArray)).bind fun bt344 => (if (bt344.2.2.2.1.length : Int) = 2 then (if (bt344.2.2.2.2.1.length : Int) = 2 then (missivelaw12_lives.j0 k ((bt344.2.2.2.2.2.length : Int) != 1) bt344.1 bt344.2.1 bt344.2.2.1 bt344.2.2.2.1 bt344.2.2.2.2.1 bt344.2.2.2.2.2) else (missivelaw12_lives.j0 k true bt344.1 bt344.2.1 bt344.2.2.1 bt344.2.2.2.1 bt344.2.2.2.2.1 bt344.2.2.2.2.2)) else (missivelaw12_lives.j0 k true bt344.1 bt344.2.1 bt344.2.2.1 bt344.2.2.2.1 bt344.2.2.2.2.1 bt344.2.2.2.2.2))) = some r := h
 clear h
 obtain ⟨⟨t344, t345, t346, t347, t350, t353⟩, A1, H⟩ := bindQ H
 replace H : (if (t347.length : Int) = 2 then (if (t350.length : Int) = 2 then (missivelaw12_lives.j0 k ((t353.length : Int) != 1) t344 t345 t346 t347 t350 t353) else (missivelaw12_lives.j0 k true t344 t345 t346 t347 t350 t353)) else (missivelaw12_lives.j0 k true t344 t345 t346 t347 t350 t353)) = some r := H
 have HC2 := Aside0.mk H
 clear H
 go_enter Tryz.func6, Tryz.ntmps6
 go_upto_region 2 with (first | ((with_reducible refine gate_callee (f := 7) rfl ?_); refine goesLQ (some 2) Tryz.func7 #[.string (⟨#[83, 117, 98, 106, 101, 99, 116, 58, 32, 61, 63, 117, 116, 102, 45, 56, 63, 113, 63, 61, 67, 51, 61, 56, 57, 116, 61, 67, 51, 61, 65, 57, 63, 61, 10, 68, 97, 116, 101, 58, 32, 53, 32, 70, 101, 98, 32, 57, 54, 10, 10, 72, 69, 76, 76, 79, 32, 87, 111, 114, 108, 100]⟩ : ByteArray)] ?_; (with_reducible refine (mail_Read.calls k (⟨#[83, 117, 98, 106, 101, 99, 116, 58, 32, 61, 63, 117, 116, 102, 45, 56, 63, 113, 63, 61, 67, 51, 61, 56, 57, 116, 61, 67, 51, 61, 65, 57, 63, 61, 10, 68, 97, 116, 101, 58, 32, 53, 32, 70, 101, 98, 32, 57, 54, 10, 10, 72, 69, 76, 76, 79, 32, 87, 111, 114, 108, 100]⟩ : ByteArray) t344 t345 t346 t347 t350 t353 _ ?side1 A1.out).mono ?_); (case side1 => first | exact TX HTAB HB | exact TD HTAB); rintro e w3 ⟨v348, v351, v354, rfl, ho0, ho1, ho2, hb⟩; refine ⟨_, rfl, ?_⟩; have HO349 := Aside0.mk (Kd.R_lower ho0 (below_size (LX HB))); have HO352 := Aside0.mk (Kd.R_lower ho1 (below_size (LX HB))); have HO355 := Aside0.mk (Kd.R_lower ho2 (below_size (LX HB))); replace HB := LB HB hb) | ((with_reducible refine gate_dst (N := 1) rfl ?_); (try (refine gate_guard (by rfl) ?_; dsimp only)); refine box_event ?hg (N := 1) ?hd (cs := #[.int .i64 0, .int .i64 0, .bool false, .slice none 0 0, .slice none 0 0, .slice none 0 0]) (t := 26) ?hr ?_; (case hd => rfl); (case hg => rfl); (case hr => first | (go_simp; done) | (go_simp; rfl)); intro gb356 hg w4 hbox hb; replace HO349 := RB HO349 hb; replace HO352 := RB HO352 hb; replace HO355 := RB HO355 hb; have BK356 := Aside0.mk (hbox); have GW356 := gwQ HB hg; have GE356 := gwQ HB hg; replace HB := LB HB hb; clear hb hbox hg; obtain ⟨hcz5_0, hcz5_1, hcz5_2, hcz5_3, hcz5_4, hcz5_5, hfz5_0, hfz5_1, hfz5_2, hfz5_3, hfz5_4, hfz5_5⟩ := cf6 BK356; obtain ⟨Ao6, co6, eo6⟩ := Kd.R_slice HO349.out; subst eo6; obtain ⟨Ao7, co7, eo7⟩ := Kd.R_slice HO352.out; subst eo7; obtain ⟨Ao8, co8, eo8⟩ := Kd.R_slice HO355.out; subst eo8))
 (try simp only [Act.put, List.setIfInBounds_toArray, List.set_cons_zero, List.set_cons_succ])
 go_cut [18] (fun v18 wc => ∃ (kq : Nat) (x18_1 : Bool), v18 = .bool x18_1 ∧ Aside0 (missivelaw12_lives.j0 kq x18_1 t344 t345 t346 t347 t350 t353 = some r) ∧ Aside0 (kq ≤ k) ∧ Aside0 (Kd.R Kd.string 9 wc w.heap.size (fun k_ => some k_ ≠ ((.slice Ao7 t350.length co7) : Value).ownBlock ∧ some k_ ≠ ((.slice Ao8 t353.length co8) : Value).ownBlock) (.slice Ao6 t347.length co6) t347) ∧ Aside0 (Kd.R Kd.string 9 wc w.heap.size (fun k_ => some k_ ≠ ((.slice Ao6 t347.length co6) : Value).ownBlock ∧ some k_ ≠ ((.slice Ao8 t353.length co8) : Value).ownBlock) (.slice Ao7 t350.length co7) t350) ∧ Aside0 (Kd.R Kd.string 9 wc w.heap.size (fun k_ => some k_ ≠ ((.slice Ao6 t347.length co6) : Value).ownBlock ∧ some k_ ≠ ((.slice Ao7 t350.length co7) : Value).ownBlock) (.slice Ao8 t353.length co8) t353) ∧ Aside0 (wc.heap[gb356]? = some (.cells #[.int .i64 t344, .int .i64 t345, .bool t346, (.slice Ao6 t347.length co6), (.slice Ao7 t350.length co7), (.slice Ao8 t353.length co8)] 26 (0, 0))) ∧ Aside0 (Below w.heap.size w wc))
 case first =>
  have H := HC2.out
  clear HC2
  by_cases c9 : (t347.length : Int) = 2
  ·
   rw [if_pos c9] at H
   have c9b0 : ((t347.length : Int) == 2) = true := beq_iff_eq.mpr c9
   have c9b1 : ((t347.length : Int) != 2) = false := bne_eq_false_iff_eq.mpr c9
   clear c9
   (first | rw [c9b0] | (simp only [i64_w, i32_w]; rw [c9b0]) | skip)
   by_cases c10 : (t350.length : Int) = 2
   ·
    rw [if_pos c10] at H
    have c10b0 : ((t350.length : Int) == 2) = true := beq_iff_eq.mpr c10
    have c10b1 : ((t350.length : Int) != 2) = false := bne_eq_false_iff_eq.mpr c10
    clear c10
    have H' := Aside0.mk H
    clear H
    obtain ⟨hcz11_0, hcz11_1, hcz11_2, hcz11_3, hcz11_4, hcz11_5, hfz11_0, hfz11_1, hfz11_2, hfz11_3, hfz11_4, hfz11_5⟩ := cf6 BK356
    go_wp2
    go_meet
    case rel => exact ⟨_, (((t353.length : Int) != 1)), (by first | rfl | (simp [*]; done)), H', ⟨by first | omega | exact Nat.le_refl _⟩, ⟨by (with_reducible repeat (first | apply Kd.R_alloc | apply Kd.R_drewN | apply Kd.R_drew)); exact Kd.R_mono (far6 gb356 (Kd.R_types HO349.out BK356.out (by decide))) (fun _ hk => ⟨hk.1.1, hk.1.2⟩)⟩, ⟨by (with_reducible repeat (first | apply Kd.R_alloc | apply Kd.R_drewN | apply Kd.R_drew)); exact Kd.R_mono (far6 gb356 (Kd.R_types HO352.out BK356.out (by decide))) (fun _ hk => ⟨hk.1.1, hk.1.2⟩)⟩, ⟨by (with_reducible repeat (first | apply Kd.R_alloc | apply Kd.R_drewN | apply Kd.R_drew)); exact Kd.R_mono (far6 gb356 (Kd.R_types HO355.out BK356.out (by decide))) (fun _ hk => ⟨hk.1.1, hk.1.2⟩)⟩, ⟨PX6 BK356⟩, ⟨LX HB⟩⟩
   ·
    rw [if_neg c10] at H
    have c10b0 : ((t350.length : Int) == 2) = false := beq_eq_false_iff_ne.mpr c10
    have c10b1 : ((t350.length : Int) != 2) = true := bne_iff_ne.mpr c10
    have H' := Aside0.mk H
    clear H
    obtain ⟨hcz12_0, hcz12_1, hcz12_2, hcz12_3, hcz12_4, hcz12_5, hfz12_0, hfz12_1, hfz12_2, hfz12_3, hfz12_4, hfz12_5⟩ := cf6 BK356
    go_wp2
    go_meet
    case rel => exact ⟨_, (true), (by first | rfl | (simp [*]; done)), H', ⟨by first | omega | exact Nat.le_refl _⟩, ⟨by (with_reducible repeat (first | apply Kd.R_alloc | apply Kd.R_drewN | apply Kd.R_drew)); exact Kd.R_mono (far6 gb356 (Kd.R_types HO349.out BK356.out (by decide))) (fun _ hk => ⟨hk.1.1, hk.1.2⟩)⟩, ⟨by (with_reducible repeat (first | apply Kd.R_alloc | apply Kd.R_drewN | apply Kd.R_drew)); exact Kd.R_mono (far6 gb356 (Kd.R_types HO352.out BK356.out (by decide))) (fun _ hk => ⟨hk.1.1, hk.1.2⟩)⟩, ⟨by (with_reducible repeat (first | apply Kd.R_alloc | apply Kd.R_drewN | apply Kd.R_drew)); exact Kd.R_mono (far6 gb356 (Kd.R_types HO355.out BK356.out (by decide))) (fun _ hk => ⟨hk.1.1, hk.1.2⟩)⟩, ⟨PX6 BK356⟩, ⟨LX HB⟩⟩
  ·
   rw [if_neg c9] at H
   have c9b0 : ((t347.length : Int) == 2) = false := beq_eq_false_iff_ne.mpr c9
   have c9b1 : ((t347.length : Int) != 2) = true := bne_iff_ne.mpr c9
   (first | rw [c9b0] | (simp only [i64_w, i32_w]; rw [c9b0]) | skip)
   have H' := Aside0.mk H
   clear H
   obtain ⟨hcz13_0, hcz13_1, hcz13_2, hcz13_3, hcz13_4, hcz13_5, hfz13_0, hfz13_1, hfz13_2, hfz13_3, hfz13_4, hfz13_5⟩ := cf6 BK356
   go_wp2
   go_meet
   case rel => exact ⟨_, (true), (by first | rfl | (simp [*]; done)), H', ⟨by first | omega | exact Nat.le_refl _⟩, ⟨by (with_reducible repeat (first | apply Kd.R_alloc | apply Kd.R_drewN | apply Kd.R_drew)); exact Kd.R_mono (far6 gb356 (Kd.R_types HO349.out BK356.out (by decide))) (fun _ hk => ⟨hk.1.1, hk.1.2⟩)⟩, ⟨by (with_reducible repeat (first | apply Kd.R_alloc | apply Kd.R_drewN | apply Kd.R_drew)); exact Kd.R_mono (far6 gb356 (Kd.R_types HO352.out BK356.out (by decide))) (fun _ hk => ⟨hk.1.1, hk.1.2⟩)⟩, ⟨by (with_reducible repeat (first | apply Kd.R_alloc | apply Kd.R_drewN | apply Kd.R_drew)); exact Kd.R_mono (far6 gb356 (Kd.R_types HO355.out BK356.out (by decide))) (fun _ hk => ⟨hk.1.1, hk.1.2⟩)⟩, ⟨PX6 BK356⟩, ⟨LX HB⟩⟩
 case rest =>
  clear HC2
  obtain ⟨kq, x18_1, rfl, HA, HJ1, HO_357003, HO_357004, HO_357005, BK356, HB⟩ := hcut
  cases kq with
  | zero => exact absurd HA.out (by simp [missivelaw12_lives.j0])
  | succ kj1 =>
   have H := HA.out
   clear HA
   simp only [missivelaw12_lives.j0] at H
   by_cases c14 : x18_1 = true
   ·
    subst c14
    have H1 : (some false) = some r := by rw [if_pos rfl] at H; exact H
    clear H
    have H := H1
    clear H1
    obtain rfl := Option.some.inj H
    cases hr
   ·
    replace c14 := Bool.eq_false_iff.mpr c14
    subst c14
    have H1 : (if t344 = 62 then (if t345 = 9531 then (if t346 = true then (if 0 < (t347.length : Int) then (if (rdOf ByteArray.empty t347 0).toList = ([115, 117, 98, 106, 101, 99, 116] : List UInt8) then (if 0 < (t350.length : Int) then (if (rdOf ByteArray.empty t350 0).toList = ([195, 169, 116, 195, 169] : List UInt8) then (if 0 < (t353.length : Int) then (if (rdOf ByteArray.empty t353 0).toList = ([104, 101, 108, 108, 111, 32, 119, 111, 114, 108, 100] : List UInt8) then ((mail_What.f kj1 (([65, 201] : List Int))).bind fun t363 => (if t363.toList = ([97, 195, 169] : List UInt8) then ((mail_InField.f kj1 t344 t345 t346 t347 t350 t353 (⟨#[83, 85, 66, 74, 69, 67, 84]⟩ : ByteArray) (⟨#[116, 195]⟩ : ByteArray)).bind fun t364 => (if t364 = true then ((mail_InField.f kj1 t344 t345 t346 t347 t350 t353 (⟨#[100, 97, 116, 101]⟩ : ByteArray) (⟨#[102, 101, 98, 32, 57, 55]⟩ : ByteArray)).bind fun t365 => (if t365 = true then (some false) else ((mail_InBody.f t344 t345 t346 t347 t350 t353 (⟨#[111, 32, 119]⟩ : ByteArray)).bind fun t366 => (if t366 = true then ((mail_InText.f kj1 t344 t345 t346 t347 t350 t353 (⟨#[100, 97, 116, 101, 58, 32, 53]⟩ : ByteArray)).bind fun t367 => (if t367 = true then ((mail_InText.f kj1 t344 t345 t346 t347 t350 t353 (⟨#[57, 54, 104, 101, 108, 108, 111]⟩ : ByteArray)).bind fun t368 => (if t368 = true then (some false) else ((mail_Grams.f kj1 t344 t345 t346 t347 t350 t353).bind fun t369 => (some ((t369.length : Int) == 31))))) else (some false))) else (some false))))) else (some false))) else (some false))) else (some false)) else (none)) else (some false)) else (none)) else (some false)) else (none)) else (some false)) else (some false)) else (some false)) = some r := by rw [if_neg (show ¬ (false = true) by decide)] at H; exact H
    clear H
    have H := H1
    clear H1
    by_cases c15 : t344 = 62
    ·
     rw [if_pos c15] at H
     have c15b0 : (t344 == 62) = true := beq_iff_eq.mpr c15
     have c15b1 : (t344 != 62) = false := bne_eq_false_iff_eq.mpr c15
     clear c15
     by_cases c16 : t345 = 9531
     ·
      rw [if_pos c16] at H
      have c16b0 : (t345 == 9531) = true := beq_iff_eq.mpr c16
      have c16b1 : (t345 != 9531) = false := bne_eq_false_iff_eq.mpr c16
      clear c16
      by_cases c17 : t346 = true
      ·
       subst c17
       have H1 : (if 0 < (t347.length : Int) then (if (rdOf ByteArray.empty t347 0).toList = ([115, 117, 98, 106, 101, 99, 116] : List UInt8) then (if 0 < (t350.length : Int) then (if (rdOf ByteArray.empty t350 0).toList = ([195, 169, 116, 195, 169] : List UInt8) then (if 0 < (t353.length : Int) then (if (rdOf ByteArray.empty t353 0).toList = ([104, 101, 108, 108, 111, 32, 119, 111, 114, 108, 100] : List UInt8) then ((mail_What.f kj1 (([65, 201] : List Int))).bind fun t363 => (if t363.toList = ([97, 195, 169] : List UInt8) then ((mail_InField.f kj1 t344 t345 true t347 t350 t353 (⟨#[83, 85, 66, 74, 69, 67, 84]⟩ : ByteArray) (⟨#[116, 195]⟩ : ByteArray)).bind fun t364 => (if t364 = true then ((mail_InField.f kj1 t344 t345 true t347 t350 t353 (⟨#[100, 97, 116, 101]⟩ : ByteArray) (⟨#[102, 101, 98, 32, 57, 55]⟩ : ByteArray)).bind fun t365 => (if t365 = true then (some false) else ((mail_InBody.f t344 t345 true t347 t350 t353 (⟨#[111, 32, 119]⟩ : ByteArray)).bind fun t366 => (if t366 = true then ((mail_InText.f kj1 t344 t345 true t347 t350 t353 (⟨#[100, 97, 116, 101, 58, 32, 53]⟩ : ByteArray)).bind fun t367 => (if t367 = true then ((mail_InText.f kj1 t344 t345 true t347 t350 t353 (⟨#[57, 54, 104, 101, 108, 108, 111]⟩ : ByteArray)).bind fun t368 => (if t368 = true then (some false) else ((mail_Grams.f kj1 t344 t345 true t347 t350 t353).bind fun t369 => (some ((t369.length : Int) == 31))))) else (some false))) else (some false))))) else (some false))) else (some false))) else (some false)) else (none)) else (some false)) else (none)) else (some false)) else (none)) = some r := by rw [if_pos rfl] at H; exact H
       clear H
       have H := H1
       clear H1
       by_cases c18 : 0 < (t347.length : Int)
       ·
        rw [if_pos c18] at H
        have c18b0 : decide (0 < (t347.length : Int)) = true := decide_eq_true c18
        have c18b1 : decide (0 < t347.length) = true := decide_eq_true (by omega)
        clear c18
        by_cases c19 : (rdOf ByteArray.empty t347 0).toList = ([115, 117, 98, 106, 101, 99, 116] : List UInt8)
        ·
         rw [if_pos c19] at H
         have c19b0 : ((rdOf ByteArray.empty t347 0).toList == ([115, 117, 98, 106, 101, 99, 116] : List UInt8)) = true := beq_iff_eq.mpr c19
         have c19b1 : ((rdOf ByteArray.empty t347 0).toList != ([115, 117, 98, 106, 101, 99, 116] : List UInt8)) = false := bne_eq_false_iff_eq.mpr c19
         clear c19
         by_cases c20 : 0 < (t350.length : Int)
         ·
          rw [if_pos c20] at H
          have c20b0 : decide (0 < (t350.length : Int)) = true := decide_eq_true c20
          have c20b1 : decide (0 < t350.length) = true := decide_eq_true (by omega)
          clear c20
          by_cases c21 : (rdOf ByteArray.empty t350 0).toList = ([195, 169, 116, 195, 169] : List UInt8)
          ·
           rw [if_pos c21] at H
           have c21b0 : ((rdOf ByteArray.empty t350 0).toList == ([195, 169, 116, 195, 169] : List UInt8)) = true := beq_iff_eq.mpr c21
           have c21b1 : ((rdOf ByteArray.empty t350 0).toList != ([195, 169, 116, 195, 169] : List UInt8)) = false := bne_eq_false_iff_eq.mpr c21
           clear c21
           by_cases c22 : 0 < (t353.length : Int)
           ·
            rw [if_pos c22] at H
            have c22b0 : decide (0 < (t353.length : Int)) = true := decide_eq_true c22
            have c22b1 : decide (0 < t353.length) = true := decide_eq_true (by omega)
            clear c22
            by_cases c23 : (rdOf ByteArray.empty t353 0).toList = ([104, 101, 108, 108, 111, 32, 119, 111, 114, 108, 100] : List UInt8)
            ·
             rw [if_pos c23] at H
             have c23b0 : ((rdOf ByteArray.empty t353 0).toList == ([104, 101, 108, 108, 111, 32, 119, 111, 114, 108, 100] : List UInt8)) = true := beq_iff_eq.mpr c23
             have c23b1 : ((rdOf ByteArray.empty t353 0).toList != ([104, 101, 108, 108, 111, 32, 119, 111, 114, 108, 100] : List UInt8)) = false := bne_eq_false_iff_eq.mpr c23
             clear c23
             obtain ⟨y360, hy360⟩ : ∃ y_ : List Int, y_ = (([65, 201] : List Int)) := ⟨_, rfl⟩
             replace H : ((mail_What.f kj1 y360).bind fun t363 => (if t363.toList = ([97, 195, 169] : List UInt8) then ((mail_InField.f kj1 t344 t345 true t347 t350 t353 (⟨#[83, 85, 66, 74, 69, 67, 84]⟩ : ByteArray) (⟨#[116, 195]⟩ : ByteArray)).bind fun t364 => (if t364 = true then ((mail_InField.f kj1 t344 t345 true t347 t350 t353 (⟨#[100, 97, 116, 101]⟩ : ByteArray) (⟨#[102, 101, 98, 32, 57, 55]⟩ : ByteArray)).bind fun t365 => (if t365 = true then (some false) else ((mail_InBody.f t344 t345 true t347 t350 t353 (⟨#[111, 32, 119]⟩ : ByteArray)).bind fun t366 => (if t366 = true then ((mail_InText.f kj1 t344 t345 true t347 t350 t353 (⟨#[100, 97, 116, 101, 58, 32, 53]⟩ : ByteArray)).bind fun t367 => (if t367 = true then ((mail_InText.f kj1 t344 t345 true t347 t350 t353 (⟨#[57, 54, 104, 101, 108, 108, 111]⟩ : ByteArray)).bind fun t368 => (if t368 = true then (some false) else ((mail_Grams.f kj1 t344 t345 true t347 t350 t353).bind fun t369 => (some ((t369.length : Int) == 31))))) else (some false))) else (some false))))) else (some false))) else (some false))) = some r := by first | (rw [hy360]; with_reducible exact H) | (have H2_ := (Option.bind_some _ _).symm.trans H; rw [hy360]; with_reducible exact H2_) | (have H2_ := (Option.bind_some _ _).symm.trans H; with_reducible exact H2_) | with_reducible exact H | (rw [hy360]; exact H) | exact H
             have Ny360 := Aside0.mk hy360
             clear hy360
             obtain ⟨t363, A24, H⟩ := bindQ H
             replace H : (if t363.toList = ([97, 195, 169] : List UInt8) then ((mail_InField.f kj1 t344 t345 true t347 t350 t353 (⟨#[83, 85, 66, 74, 69, 67, 84]⟩ : ByteArray) (⟨#[116, 195]⟩ : ByteArray)).bind fun t364 => (if t364 = true then ((mail_InField.f kj1 t344 t345 true t347 t350 t353 (⟨#[100, 97, 116, 101]⟩ : ByteArray) (⟨#[102, 101, 98, 32, 57, 55]⟩ : ByteArray)).bind fun t365 => (if t365 = true then (some false) else ((mail_InBody.f t344 t345 true t347 t350 t353 (⟨#[111, 32, 119]⟩ : ByteArray)).bind fun t366 => (if t366 = true then ((mail_InText.f kj1 t344 t345 true t347 t350 t353 (⟨#[100, 97, 116, 101, 58, 32, 53]⟩ : ByteArray)).bind fun t367 => (if t367 = true then ((mail_InText.f kj1 t344 t345 true t347 t350 t353 (⟨#[57, 54, 104, 101, 108, 108, 111]⟩ : ByteArray)).bind fun t368 => (if t368 = true then (some false) else ((mail_Grams.f kj1 t344 t345 true t347 t350 t353).bind fun t369 => (some ((t369.length : Int) == 31))))) else (some false))) else (some false))))) else (some false))) else (some false)) = some r := H
             by_cases c25 : t363.toList = ([97, 195, 169] : List UInt8)
             ·
              rw [if_pos c25] at H
              have c25b0 : (t363.toList == ([97, 195, 169] : List UInt8)) = true := beq_iff_eq.mpr c25
              have c25b1 : (t363.toList != ([97, 195, 169] : List UInt8)) = false := bne_eq_false_iff_eq.mpr c25
              clear c25
              obtain ⟨t364, A26, H⟩ := bindQ H
              replace H : (if t364 = true then ((mail_InField.f kj1 t344 t345 true t347 t350 t353 (⟨#[100, 97, 116, 101]⟩ : ByteArray) (⟨#[102, 101, 98, 32, 57, 55]⟩ : ByteArray)).bind fun t365 => (if t365 = true then (some false) else ((mail_InBody.f t344 t345 true t347 t350 t353 (⟨#[111, 32, 119]⟩ : ByteArray)).bind fun t366 => (if t366 = true then ((mail_InText.f kj1 t344 t345 true t347 t350 t353 (⟨#[100, 97, 116, 101, 58, 32, 53]⟩ : ByteArray)).bind fun t367 => (if t367 = true then ((mail_InText.f kj1 t344 t345 true t347 t350 t353 (⟨#[57, 54, 104, 101, 108, 108, 111]⟩ : ByteArray)).bind fun t368 => (if t368 = true then (some false) else ((mail_Grams.f kj1 t344 t345 true t347 t350 t353).bind fun t369 => (some ((t369.length : Int) == 31))))) else (some false))) else (some false))))) else (some false)) = some r := H
              by_cases c27 : t364 = true
              ·
               subst c27
               have H1 : ((mail_InField.f kj1 t344 t345 true t347 t350 t353 (⟨#[100, 97, 116, 101]⟩ : ByteArray) (⟨#[102, 101, 98, 32, 57, 55]⟩ : ByteArray)).bind fun t365 => (if t365 = true then (some false) else ((mail_InBody.f t344 t345 true t347 t350 t353 (⟨#[111, 32, 119]⟩ : ByteArray)).bind fun t366 => (if t366 = true then ((mail_InText.f kj1 t344 t345 true t347 t350 t353 (⟨#[100, 97, 116, 101, 58, 32, 53]⟩ : ByteArray)).bind fun t367 => (if t367 = true then ((mail_InText.f kj1 t344 t345 true t347 t350 t353 (⟨#[57, 54, 104, 101, 108, 108, 111]⟩ : ByteArray)).bind fun t368 => (if t368 = true then (some false) else ((mail_Grams.f kj1 t344 t345 true t347 t350 t353).bind fun t369 => (some ((t369.length : Int) == 31))))) else (some false))) else (some false))))) = some r := by rw [if_pos rfl] at H; exact H
               clear H
               have H := H1
               clear H1
               obtain ⟨t365, A28, H⟩ := bindQ H
               replace H : (if t365 = true then (some false) else ((mail_InBody.f t344 t345 true t347 t350 t353 (⟨#[111, 32, 119]⟩ : ByteArray)).bind fun t366 => (if t366 = true then ((mail_InText.f kj1 t344 t345 true t347 t350 t353 (⟨#[100, 97, 116, 101, 58, 32, 53]⟩ : ByteArray)).bind fun t367 => (if t367 = true then ((mail_InText.f kj1 t344 t345 true t347 t350 t353 (⟨#[57, 54, 104, 101, 108, 108, 111]⟩ : ByteArray)).bind fun t368 => (if t368 = true then (some false) else ((mail_Grams.f kj1 t344 t345 true t347 t350 t353).bind fun t369 => (some ((t369.length : Int) == 31))))) else (some false))) else (some false)))) = some r := H
               by_cases c29 : t365 = true
               ·
                subst c29
                have H1 : (some false) = some r := by rw [if_pos rfl] at H; exact H
                clear H
                have H := H1
                clear H1
                obtain rfl := Option.some.inj H
                cases hr
               ·
                replace c29 := Bool.eq_false_iff.mpr c29
                subst c29
                have H1 : ((mail_InBody.f t344 t345 true t347 t350 t353 (⟨#[111, 32, 119]⟩ : ByteArray)).bind fun t366 => (if t366 = true then ((mail_InText.f kj1 t344 t345 true t347 t350 t353 (⟨#[100, 97, 116, 101, 58, 32, 53]⟩ : ByteArray)).bind fun t367 => (if t367 = true then ((mail_InText.f kj1 t344 t345 true t347 t350 t353 (⟨#[57, 54, 104, 101, 108, 108, 111]⟩ : ByteArray)).bind fun t368 => (if t368 = true then (some false) else ((mail_Grams.f kj1 t344 t345 true t347 t350 t353).bind fun t369 => (some ((t369.length : Int) == 31))))) else (some false))) else (some false))) = some r := by rw [if_neg (show ¬ (false = true) by decide)] at H; exact H
                clear H
                have H := H1
                clear H1
                obtain ⟨t366, A39, H⟩ := bindQ H
                replace H : (if t366 = true then ((mail_InText.f kj1 t344 t345 true t347 t350 t353 (⟨#[100, 97, 116, 101, 58, 32, 53]⟩ : ByteArray)).bind fun t367 => (if t367 = true then ((mail_InText.f kj1 t344 t345 true t347 t350 t353 (⟨#[57, 54, 104, 101, 108, 108, 111]⟩ : ByteArray)).bind fun t368 => (if t368 = true then (some false) else ((mail_Grams.f kj1 t344 t345 true t347 t350 t353).bind fun t369 => (some ((t369.length : Int) == 31))))) else (some false))) else (some false)) = some r := H
                by_cases c40 : t366 = true
                ·
                 subst c40
                 have H1 : ((mail_InText.f kj1 t344 t345 true t347 t350 t353 (⟨#[100, 97, 116, 101, 58, 32, 53]⟩ : ByteArray)).bind fun t367 => (if t367 = true then ((mail_InText.f kj1 t344 t345 true t347 t350 t353 (⟨#[57, 54, 104, 101, 108, 108, 111]⟩ : ByteArray)).bind fun t368 => (if t368 = true then (some false) else ((mail_Grams.f kj1 t344 t345 true t347 t350 t353).bind fun t369 => (some ((t369.length : Int) == 31))))) else (some false))) = some r := by rw [if_pos rfl] at H; exact H
                 clear H
                 have H := H1
                 clear H1
                 obtain ⟨t367, A41, H⟩ := bindQ H
                 replace H : (if t367 = true then ((mail_InText.f kj1 t344 t345 true t347 t350 t353 (⟨#[57, 54, 104, 101, 108, 108, 111]⟩ : ByteArray)).bind fun t368 => (if t368 = true then (some false) else ((mail_Grams.f kj1 t344 t345 true t347 t350 t353).bind fun t369 => (some ((t369.length : Int) == 31))))) else (some false)) = some r := H
                 by_cases c42 : t367 = true
                 ·
                  subst c42
                  have H1 : ((mail_InText.f kj1 t344 t345 true t347 t350 t353 (⟨#[57, 54, 104, 101, 108, 108, 111]⟩ : ByteArray)).bind fun t368 => (if t368 = true then (some false) else ((mail_Grams.f kj1 t344 t345 true t347 t350 t353).bind fun t369 => (some ((t369.length : Int) == 31))))) = some r := by rw [if_pos rfl] at H; exact H
                  clear H
                  have H := H1
                  clear H1
                  obtain ⟨t368, A43, H⟩ := bindQ H
                  replace H : (if t368 = true then (some false) else ((mail_Grams.f kj1 t344 t345 true t347 t350 t353).bind fun t369 => (some ((t369.length : Int) == 31)))) = some r := H
                  by_cases c44 : t368 = true
                  ·
                   subst c44
                   have H1 : (some false) = some r := by rw [if_pos rfl] at H; exact H
                   clear H
                   have H := H1
                   clear H1
                   obtain rfl := Option.some.inj H
                   cases hr
                  ·
                   replace c44 := Bool.eq_false_iff.mpr c44
                   subst c44
                   have H1 : ((mail_Grams.f kj1 t344 t345 true t347 t350 t353).bind fun t369 => (some ((t369.length : Int) == 31))) = some r := by rw [if_neg (show ¬ (false = true) by decide)] at H; exact H
                   clear H
                   have H := H1
                   clear H1
                   obtain ⟨t369, A60, H⟩ := bindQ H
                   replace H : (some ((t369.length : Int) == 31)) = some r := H
                   obtain rfl := Option.some.inj H
                   obtain ⟨hcz61_0, hcz61_1, hcz61_2, hcz61_3, hcz61_4, hcz61_5, hfz61_0, hfz61_1, hfz61_2, hfz61_3, hfz61_4, hfz61_5⟩ := cf6 BK356
                   have p357 : 0 ≤ (0 : Int) := (by omega)
                   have q357 : 0 < (t347.length : Int) := ofD
                   obtain ⟨ad357, e357, hx357_0⟩ := Kd.at_string (Kd.R_reads' HO_357003.out).2.2 0 p357 q357
                   cases e357
                   have qi357 : (0 < t347.length) = True := eq_true (by omega)
                   (try rw [show ((0 : Int)).toNat = 0 from rfl] at hx357_0)
                   (try rw [Addr.add_zero'] at hx357_0)
                   replace p357 := eq_true p357
                   replace q357 := eq_true q357
                   have p358 : 0 ≤ (0 : Int) := (by omega)
                   have q358 : 0 < (t350.length : Int) := ofD
                   obtain ⟨ad358, e358, hx358_0⟩ := Kd.at_string (Kd.R_reads' HO_357004.out).2.2 0 p358 q358
                   cases e358
                   have qi358 : (0 < t350.length) = True := eq_true (by omega)
                   (try rw [show ((0 : Int)).toNat = 0 from rfl] at hx358_0)
                   (try rw [Addr.add_zero'] at hx358_0)
                   replace p358 := eq_true p358
                   replace q358 := eq_true q358
                   have p359 : 0 ≤ (0 : Int) := (by omega)
                   have q359 : 0 < (t353.length : Int) := ofD
                   obtain ⟨ad359, e359, hx359_0⟩ := Kd.at_string (Kd.R_reads' HO_357005.out).2.2 0 p359 q359
                   cases e359
                   have qi359 : (0 < t353.length) = True := eq_true (by omega)
                   (try rw [show ((0 : Int)).toNat = 0 from rfl] at hx359_0)
                   (try rw [Addr.add_zero'] at hx359_0)
                   replace p359 := eq_true p359
                   replace q359 := eq_true q359
                   go_wp2_with (first | ((with_reducible refine gate_dst (N := 53) rfl ?_); (try (refine gate_guard (by rfl) ?_; dsimp only)); refine Kd.R_lit (Kd.int .i32) _ 21 ?hg (N := 53) ?hd (xs := ([65, 201] : List Int)) (inner := [.int .i32 65, .int .i32 201]) (ok := fun _ => True) (okp := fun _ => True) ?hr ?hp (fun _ hk => hk) trivial (Below.refl _ _) (Nat.le_refl _) (by simp) ?_; (case hd => rfl); (case hg => rfl); (case hr => first | (go_simp; done) | (go_simp; rfl)); (case hp => exact (Reps.one (show Kd.M (Kd.int .i32) _ _ _ 65 [.int .i32 65] from rfl) (Reps.one (show Kd.M (Kd.int .i32) _ _ _ 201 [.int .i32 201] from rfl) (Reps.none _ _)))); intro v361 w62 ho63 hb hg_ hnew_; clear hg_ hnew_; (first | rw [← Ny360.out] at ho63 | (simp only [Int.reduceToNat] at ho63; rw [← Ny360.out] at ho63)); replace HO_357003 := RB HO_357003 hb; replace HO_357004 := RB HO_357004 hb; replace HO_357005 := RB HO_357005 hb; have HO362 := Aside0.mk (Kd.R_lower ho63 (below_size (LX HB))); replace BK356 := BB BK356 hb; replace HB := LB HB hb; clear hb ho63; obtain ⟨Ao64, co64, eo64⟩ := Kd.R_slice HO362.out; subst eo64) | (go_at_call 8; (with_reducible refine (mail_What.calls kj1 _ _ y360 t363 _ ?side1 ?side2 A24.out).mono ?_); (case side1 => exact CX HO362); (case side2 => exact (cyQ HO362)); rintro e w65 ⟨rfl, hb⟩; replace HO_357003 := RB HO_357003 hb; replace HO_357004 := RB HO_357004 hb; replace HO_357005 := RB HO_357005 hb; replace HO362 := RB HO362 hb; replace BK356 := BB BK356 hb; replace HB := LB HB hb; obtain ⟨hcz66_0, hcz66_1, hcz66_2, hcz66_3, hcz66_4, hcz66_5, hfz66_0, hfz66_1, hfz66_2, hfz66_3, hfz66_4, hfz66_5⟩ := cf6 BK356) | (go_at_call 13; (with_reducible refine (mail_InField.calls kj1 t344 t345 true _ _ t347 _ _ t350 _ _ t353 (⟨#[83, 85, 66, 74, 69, 67, 84]⟩ : ByteArray) (⟨#[116, 195]⟩ : ByteArray) true _ ?side1 ?side2 ?side3 ?side4 ?side5 ?side6 ?side7 A26.out).mono ?_); (case side1 => exact CX HO_357003); (case side2 => exact (cyQ HO_357003)); (case side3 => exact CX HO_357004); (case side4 => exact (cyQ HO_357004)); (case side5 => exact CX HO_357005); (case side6 => exact (cyQ HO_357005)); (case side7 => first | exact TX HTAB HB | exact TD HTAB); rintro e w67 ⟨rfl, hb⟩; replace HO_357003 := RB HO_357003 hb; replace HO_357004 := RB HO_357004 hb; replace HO_357005 := RB HO_357005 hb; replace HO362 := RB HO362 hb; replace BK356 := BB BK356 hb; replace HB := LB HB hb; obtain ⟨hcz68_0, hcz68_1, hcz68_2, hcz68_3, hcz68_4, hcz68_5, hfz68_0, hfz68_1, hfz68_2, hfz68_3, hfz68_4, hfz68_5⟩ := cf6 BK356) | (go_at_call 13; (with_reducible refine (mail_InField.calls kj1 t344 t345 true _ _ t347 _ _ t350 _ _ t353 (⟨#[100, 97, 116, 101]⟩ : ByteArray) (⟨#[102, 101, 98, 32, 57, 55]⟩ : ByteArray) false _ ?side1 ?side2 ?side3 ?side4 ?side5 ?side6 ?side7 A28.out).mono ?_); (case side1 => exact CX HO_357003); (case side2 => exact (cyQ HO_357003)); (case side3 => exact CX HO_357004); (case side4 => exact (cyQ HO_357004)); (case side5 => exact CX HO_357005); (case side6 => exact (cyQ HO_357005)); (case side7 => first | exact TX HTAB HB | exact TD HTAB); rintro e w69 ⟨rfl, hb⟩; replace HO_357003 := RB HO_357003 hb; replace HO_357004 := RB HO_357004 hb; replace HO_357005 := RB HO_357005 hb; replace HO362 := RB HO362 hb; replace BK356 := BB BK356 hb; replace HB := LB HB hb; obtain ⟨hcz70_0, hcz70_1, hcz70_2, hcz70_3, hcz70_4, hcz70_5, hfz70_0, hfz70_1, hfz70_2, hfz70_3, hfz70_4, hfz70_5⟩ := cf6 BK356) | (go_at_call 14; (with_reducible refine (mail_InBody.calls t344 t345 true _ _ t347 _ _ t350 _ _ t353 (⟨#[111, 32, 119]⟩ : ByteArray) true _ ?side1 ?side2 ?side3 ?side4 ?side5 ?side6 ?side7 A39.out).mono ?_); (case side1 => exact CX HO_357003); (case side2 => exact (cyQ HO_357003)); (case side3 => exact CX HO_357004); (case side4 => exact (cyQ HO_357004)); (case side5 => exact CX HO_357005); (case side6 => exact (cyQ HO_357005)); (case side7 => first | exact TX HTAB HB | exact TD HTAB); rintro e w71 ⟨rfl, hb⟩; replace HO_357003 := RB HO_357003 hb; replace HO_357004 := RB HO_357004 hb; replace HO_357005 := RB HO_357005 hb; replace HO362 := RB HO362 hb; replace BK356 := BB BK356 hb; replace HB := LB HB hb; obtain ⟨hcz72_0, hcz72_1, hcz72_2, hcz72_3, hcz72_4, hcz72_5, hfz72_0, hfz72_1, hfz72_2, hfz72_3, hfz72_4, hfz72_5⟩ := cf6 BK356) | (go_at_call 9; (with_reducible refine (mail_InText.calls kj1 t344 t345 true _ _ t347 _ _ t350 _ _ t353 (⟨#[100, 97, 116, 101, 58, 32, 53]⟩ : ByteArray) true _ ?side1 ?side2 ?side3 ?side4 ?side5 ?side6 ?side7 A41.out).mono ?_); (case side1 => exact CX HO_357003); (case side2 => exact (cyQ HO_357003)); (case side3 => exact CX HO_357004); (case side4 => exact (cyQ HO_357004)); (case side5 => exact CX HO_357005); (case side6 => exact (cyQ HO_357005)); (case side7 => first | exact TX HTAB HB | exact TD HTAB); rintro e w73 ⟨rfl, hb⟩; replace HO_357003 := RB HO_357003 hb; replace HO_357004 := RB HO_357004 hb; replace HO_357005 := RB HO_357005 hb; replace HO362 := RB HO362 hb; replace BK356 := BB BK356 hb; replace HB := LB HB hb; obtain ⟨hcz74_0, hcz74_1, hcz74_2, hcz74_3, hcz74_4, hcz74_5, hfz74_0, hfz74_1, hfz74_2, hfz74_3, hfz74_4, hfz74_5⟩ := cf6 BK356) | (go_at_call 9; (with_reducible refine (mail_InText.calls kj1 t344 t345 true _ _ t347 _ _ t350 _ _ t353 (⟨#[57, 54, 104, 101, 108, 108, 111]⟩ : ByteArray) false _ ?side1 ?side2 ?side3 ?side4 ?side5 ?side6 ?side7 A43.out).mono ?_); (case side1 => exact CX HO_357003); (case side2 => exact (cyQ HO_357003)); (case side3 => exact CX HO_357004); (case side4 => exact (cyQ HO_357004)); (case side5 => exact CX HO_357005); (case side6 => exact (cyQ HO_357005)); (case side7 => first | exact TX HTAB HB | exact TD HTAB); rintro e w75 ⟨rfl, hb⟩; replace HO_357003 := RB HO_357003 hb; replace HO_357004 := RB HO_357004 hb; replace HO_357005 := RB HO_357005 hb; replace HO362 := RB HO362 hb; replace BK356 := BB BK356 hb; replace HB := LB HB hb; obtain ⟨hcz76_0, hcz76_1, hcz76_2, hcz76_3, hcz76_4, hcz76_5, hfz76_0, hfz76_1, hfz76_2, hfz76_3, hfz76_4, hfz76_5⟩ := cf6 BK356) | (go_at_call 10; (with_reducible refine (mail_Grams.calls kj1 t344 t345 true _ _ t347 _ _ t350 (fun k_ => some k_ = (.slice (some ad359) t353.length co8 : Value).ownBlock) _ _ t353 t369 _ ?side1 ?side2 ?side3 ?side4 ?side5 ?side6 A60.out).mono ?_); (case side1 => exact CX HO_357003); (case side2 => exact (cyQ HO_357003)); (case side3 => exact CX HO_357004); (case side4 => exact (cyQ HO_357004)); (case side5 => exact Kd.R_V (Kd.R_tight rfl (Kd.R_types (Kd.R_apart' (HO_357005.out) (Kd.R_typed HO362.out) (by decide)) BK356.out (by decide)))); (case side6 => first | exact TX HTAB HB | exact TD HTAB); rintro e w77 ⟨v370, rfl, ho0, hb⟩; replace HO_357003 := RB HO_357003 hb; replace HO_357004 := RB HO_357004 hb; replace HO_357005 := RB HO_357005 hb; replace HO362 := RB HO362 hb; have HO371 := Aside0.mk (Kd.R_lower (Kd.R_mono (ok' := fun k_ => True) ho0 (fun _ hk_ => trivial)) (below_size (LX HB))); replace BK356 := BB BK356 hb; replace HB := LB HB hb; obtain ⟨Ao78, co78, eo78⟩ := Kd.R_slice HO371.out; subst eo78))
                   go_ret
                   exact retQ HB
                 ·
                  replace c42 := Bool.eq_false_iff.mpr c42
                  subst c42
                  have H1 : (some false) = some r := by rw [if_neg (show ¬ (false = true) by decide)] at H; exact H
                  clear H
                  have H := H1
                  clear H1
                  obtain rfl := Option.some.inj H
                  cases hr
                ·
                 replace c40 := Bool.eq_false_iff.mpr c40
                 subst c40
                 have H1 : (some false) = some r := by rw [if_neg (show ¬ (false = true) by decide)] at H; exact H
                 clear H
                 have H := H1
                 clear H1
                 obtain rfl := Option.some.inj H
                 cases hr
              ·
               replace c27 := Bool.eq_false_iff.mpr c27
               subst c27
               have H1 : (some false) = some r := by rw [if_neg (show ¬ (false = true) by decide)] at H; exact H
               clear H
               have H := H1
               clear H1
               obtain rfl := Option.some.inj H
               cases hr
             ·
              rw [if_neg c25] at H
              have c25b0 : (t363.toList == ([97, 195, 169] : List UInt8)) = false := beq_eq_false_iff_ne.mpr c25
              have c25b1 : (t363.toList != ([97, 195, 169] : List UInt8)) = true := bne_iff_ne.mpr c25
              obtain rfl := Option.some.inj H
              cases hr
            ·
             rw [if_neg c23] at H
             have c23b0 : ((rdOf ByteArray.empty t353 0).toList == ([104, 101, 108, 108, 111, 32, 119, 111, 114, 108, 100] : List UInt8)) = false := beq_eq_false_iff_ne.mpr c23
             have c23b1 : ((rdOf ByteArray.empty t353 0).toList != ([104, 101, 108, 108, 111, 32, 119, 111, 114, 108, 100] : List UInt8)) = true := bne_iff_ne.mpr c23
             obtain rfl := Option.some.inj H
             cases hr
           ·
            rw [if_neg c22] at H
            exact absurd H (by simp)
          ·
           rw [if_neg c21] at H
           have c21b0 : ((rdOf ByteArray.empty t350 0).toList == ([195, 169, 116, 195, 169] : List UInt8)) = false := beq_eq_false_iff_ne.mpr c21
           have c21b1 : ((rdOf ByteArray.empty t350 0).toList != ([195, 169, 116, 195, 169] : List UInt8)) = true := bne_iff_ne.mpr c21
           obtain rfl := Option.some.inj H
           cases hr
         ·
          rw [if_neg c20] at H
          exact absurd H (by simp)
        ·
         rw [if_neg c19] at H
         have c19b0 : ((rdOf ByteArray.empty t347 0).toList == ([115, 117, 98, 106, 101, 99, 116] : List UInt8)) = false := beq_eq_false_iff_ne.mpr c19
         have c19b1 : ((rdOf ByteArray.empty t347 0).toList != ([115, 117, 98, 106, 101, 99, 116] : List UInt8)) = true := bne_iff_ne.mpr c19
         obtain rfl := Option.some.inj H
         cases hr
       ·
        rw [if_neg c18] at H
        exact absurd H (by simp)
      ·
       replace c17 := Bool.eq_false_iff.mpr c17
       subst c17
       have H1 : (some false) = some r := by rw [if_neg (show ¬ (false = true) by decide)] at H; exact H
       clear H
       have H := H1
       clear H1
       obtain rfl := Option.some.inj H
       cases hr
     ·
      rw [if_neg c16] at H
      have c16b0 : (t345 == 9531) = false := beq_eq_false_iff_ne.mpr c16
      have c16b1 : (t345 != 9531) = true := bne_iff_ne.mpr c16
      obtain rfl := Option.some.inj H
      cases hr
    ·
     rw [if_neg c15] at H
     have c15b0 : (t344 == 62) = false := beq_eq_false_iff_ne.mpr c15
     have c15b1 : (t344 != 62) = true := bne_iff_ne.mpr c15
     obtain rfl := Option.some.inj H
     cases hr
theorem missivelaw12_MailWider.calls (k : Nat) (a0 : ByteArray) (a1 : ByteArray) (A2 : Option Addr) (c2 : Nat) (l2 : List Int) (a3 : Int) (r : Bool) (hr : r = true) (w : World) (hr2 : Kd.C (Kd.int .i32) w A2 l2.length l2) (hc2 : l2.length ≤ c2) (hT : Tabs w) (h : missivelaw12_MailWider.f k a0 a1 l2 a3 = some r) :
  Calls Tryz.prog 4 #[.string a0, .string a1, .slice A2 l2.length c2, .int .i64 a3] w fun e w' => e = .returned (.bool r) ∧ Below w.heap.size w w' := by
 have hu26 := Tryz.underlying26
 have HR2 := Aside0.mk hr2
 have HC2 := Aside0.mk hc2
 clear hr2 hc2
 have HTAB := Aside0.mk hT
 clear hT
 have HB := Aside0.mk (Below.refl w.heap.size w)
 have H : ((missivelaw12_lives.f k).bind fun t372 => (if t372 = true then ((mail_Read.f k a0).bind fun bt373 => ((mail_What.f k l2).bind fun t386 => ((mail_InField.f k bt373.1 bt373.2.1 bt373.2.2.1 bt373.2.2.2.1 bt373.2.2.2.2.1 bt373.2.2.2.2.2 a1 t386).bind fun t387 => (if t387 = true then ((mail_InText.f k bt373.1 bt373.2.1 bt373.2.2.1 bt373.2.2.2.1 bt373.2.2.2.2.1 bt373.2.2.2.2.2 t386).bind fun t388 => (missivelaw12_MailWider.j0 k l2 a3 t386 (!t388) bt373.1 bt373.2.1 bt373.2.2.1 bt373.2.2.2.1 bt373.2.2.2.2.1 bt373.2.2.2.2.2)) else ((mail_InBody.f bt373.1 bt373.2.1 bt373.2.2.1 bt373.2.2.2.1 bt373.2.2.2.2.1 bt373.2.2.2.2.2 t386).bind fun t389 => (if t389 = true then ((mail_InText.f k bt373.1 bt373.2.1 bt373.2.2.1 bt373.2.2.2.1 bt373.2.2.2.2.1 bt373.2.2.2.2.2 t386).bind fun t390 => (missivelaw12_MailWider.j0 k l2 a3 t386 (!t390) bt373.1 bt373.2.1 bt373.2.2.1 bt373.2.2.2.1 bt373.2.2.2.2.1 bt373.2.2.2.2.2)) else (missivelaw12_MailWider.j0 k l2 a3 t386 false bt373.1 bt373.2.1 bt373.2.2.1 bt373.2.2.2.1 bt373.2.2.2.2.1 bt373.2.2.2.2.2))))))) else (some false))) = some r := h
 clear h
 obtain ⟨t372, A5, H⟩ := bindQ H
 replace H : (if t372 = true then ((mail_Read.f k a0).bind fun bt373 => ((mail_What.f k l2).bind fun t386 => ((mail_InField.f k bt373.1 bt373.2.1 bt373.2.2.1 bt373.2.2.2.1 bt373.2.2.2.2.1 bt373.2.2.2.2.2 a1 t386).bind fun t387 => (if t387 = true then ((mail_InText.f k bt373.1 bt373.2.1 bt373.2.2.1 bt373.2.2.2.1 bt373.2.2.2.2.1 bt373.2.2.2.2.2 t386).bind fun t388 => (missivelaw12_MailWider.j0 k l2 a3 t386 (!t388) bt373.1 bt373.2.1 bt373.2.2.1 bt373.2.2.2.1 bt373.2.2.2.2.1 bt373.2.2.2.2.2)) else ((mail_InBody.f bt373.1 bt373.2.1 bt373.2.2.1 bt373.2.2.2.1 bt373.2.2.2.2.1 bt373.2.2.2.2.2 t386).bind fun t389 => (if t389 = true then ((mail_InText.f k bt373.1 bt373.2.1 bt373.2.2.1 bt373.2.2.2.1 bt373.2.2.2.2.1 bt373.2.2.2.2.2 t386).bind fun t390 => (missivelaw12_MailWider.j0 k l2 a3 t386 (!t390) bt373.1 bt373.2.1 bt373.2.2.1 bt373.2.2.2.1 bt373.2.2.2.2.1 bt373.2.2.2.2.2)) else (missivelaw12_MailWider.j0 k l2 a3 t386 false bt373.1 bt373.2.1 bt373.2.2.1 bt373.2.2.2.1 bt373.2.2.2.2.1 bt373.2.2.2.2.2))))))) else (some false)) = some r := H
 by_cases c6 : t372 = true
 ·
  subst c6
  have H1 : ((mail_Read.f k a0).bind fun bt373 => ((mail_What.f k l2).bind fun t386 => ((mail_InField.f k bt373.1 bt373.2.1 bt373.2.2.1 bt373.2.2.2.1 bt373.2.2.2.2.1 bt373.2.2.2.2.2 a1 t386).bind fun t387 => (if t387 = true then ((mail_InText.f k bt373.1 bt373.2.1 bt373.2.2.1 bt373.2.2.2.1 bt373.2.2.2.2.1 bt373.2.2.2.2.2 t386).bind fun t388 => (missivelaw12_MailWider.j0 k l2 a3 t386 (!t388) bt373.1 bt373.2.1 bt373.2.2.1 bt373.2.2.2.1 bt373.2.2.2.2.1 bt373.2.2.2.2.2)) else ((mail_InBody.f bt373.1 bt373.2.1 bt373.2.2.1 bt373.2.2.2.1 bt373.2.2.2.2.1 bt373.2.2.2.2.2 t386).bind fun t389 => (if t389 = true then ((mail_InText.f k bt373.1 bt373.2.1 bt373.2.2.1 bt373.2.2.2.1 bt373.2.2.2.2.1 bt373.2.2.2.2.2 t386).bind fun t390 => (missivelaw12_MailWider.j0 k l2 a3 t386 (!t390) bt373.1 bt373.2.1 bt373.2.2.1 bt373.2.2.2.1 bt373.2.2.2.2.1 bt373.2.2.2.2.2)) else (missivelaw12_MailWider.j0 k l2 a3 t386 false bt373.1 bt373.2.1 bt373.2.2.1 bt373.2.2.2.1 bt373.2.2.2.2.1 bt373.2.2.2.2.2))))))) = some r := by rw [if_pos rfl] at H; exact H
  clear H
  have H := H1
  clear H1
  obtain ⟨⟨t373, t374, t375, t376, t379, t382⟩, A7, H⟩ := bindQ H
  replace H : ((mail_What.f k l2).bind fun t386 => ((mail_InField.f k t373 t374 t375 t376 t379 t382 a1 t386).bind fun t387 => (if t387 = true then ((mail_InText.f k t373 t374 t375 t376 t379 t382 t386).bind fun t388 => (missivelaw12_MailWider.j0 k l2 a3 t386 (!t388) t373 t374 t375 t376 t379 t382)) else ((mail_InBody.f t373 t374 t375 t376 t379 t382 t386).bind fun t389 => (if t389 = true then ((mail_InText.f k t373 t374 t375 t376 t379 t382 t386).bind fun t390 => (missivelaw12_MailWider.j0 k l2 a3 t386 (!t390) t373 t374 t375 t376 t379 t382)) else (missivelaw12_MailWider.j0 k l2 a3 t386 false t373 t374 t375 t376 t379 t382)))))) = some r := H
  obtain ⟨t386, A8, H⟩ := bindQ H
  replace H : ((mail_InField.f k t373 t374 t375 t376 t379 t382 a1 t386).bind fun t387 => (if t387 = true then ((mail_InText.f k t373 t374 t375 t376 t379 t382 t386).bind fun t388 => (missivelaw12_MailWider.j0 k l2 a3 t386 (!t388) t373 t374 t375 t376 t379 t382)) else ((mail_InBody.f t373 t374 t375 t376 t379 t382 t386).bind fun t389 => (if t389 = true then ((mail_InText.f k t373 t374 t375 t376 t379 t382 t386).bind fun t390 => (missivelaw12_MailWider.j0 k l2 a3 t386 (!t390) t373 t374 t375 t376 t379 t382)) else (missivelaw12_MailWider.j0 k l2 a3 t386 false t373 t374 t375 t376 t379 t382))))) = some r := H
  have HC9 := Aside0.mk H
  clear H
  go_enter Tryz.func4, Tryz.ntmps4
  go_upto_region 5 with (first | ((with_reducible refine gate_callee (f := 6) rfl ?_); refine goesLQ (some 12) Tryz.func6 #[] ?_; (with_reducible refine (missivelaw12_lives.calls k  true _ ?side1 A5.out).mono ?_); (case side1 => first | exact TX HTAB HB | exact TD HTAB); rintro e w10 ⟨rfl, hb⟩; refine ⟨_, rfl, ?_⟩; replace HB := LB HB hb) | ((with_reducible refine gate_callee (f := 7) rfl ?_); refine goesLQ (some 15) Tryz.func7 #[.string a0] ?_; (with_reducible refine (mail_Read.calls k a0 t373 t374 t375 t376 t379 t382 _ ?side1 A7.out).mono ?_); (case side1 => first | exact TX HTAB HB | exact TD HTAB); rintro e w11 ⟨v377, v380, v383, rfl, ho0, ho1, ho2, hb⟩; refine ⟨_, rfl, ?_⟩; have HO378 := Aside0.mk (Kd.R_lower ho0 (below_size (LX HB))); have HO381 := Aside0.mk (Kd.R_lower ho1 (below_size (LX HB))); have HO384 := Aside0.mk (Kd.R_lower ho2 (below_size (LX HB))); replace HB := LB HB hb) | ((with_reducible refine gate_dst (N := 9) rfl ?_); (try (refine gate_guard (by rfl) ?_; dsimp only)); refine box_event ?hg (N := 9) ?hd (cs := #[.int .i64 0, .int .i64 0, .bool false, .slice none 0 0, .slice none 0 0, .slice none 0 0]) (t := 26) ?hr ?_; (case hd => rfl); (case hg => rfl); (case hr => first | (go_simp; done) | (go_simp; rfl)); intro gb385 hg w12 hbox hb; replace HO378 := RB HO378 hb; replace HO381 := RB HO381 hb; replace HO384 := RB HO384 hb; have BK385 := Aside0.mk (hbox); have GW385 := gwQ HB hg; have GE385 := gwQ HB hg; replace HB := LB HB hb; clear hb hbox hg; obtain ⟨hcz13_0, hcz13_1, hcz13_2, hcz13_3, hcz13_4, hcz13_5, hfz13_0, hfz13_1, hfz13_2, hfz13_3, hfz13_4, hfz13_5⟩ := cf6 BK385; obtain ⟨Ao14, co14, eo14⟩ := Kd.R_slice HO378.out; subst eo14; obtain ⟨Ao15, co15, eo15⟩ := Kd.R_slice HO381.out; subst eo15; obtain ⟨Ao16, co16, eo16⟩ := Kd.R_slice HO384.out; subst eo16) | ((with_reducible refine gate_callee (f := 8) rfl ?_); refine goesLQ (some 17) Tryz.func8 #[.slice A2 l2.length c2] ?_; (with_reducible refine (mail_What.calls k _ _ l2 t386 _ ?side1 ?side2 A8.out).mono ?_); (case side1 => exact Kd.C_below HR2.out (LX HB)); (case side2 => exact HC2.out); rintro e w17 ⟨rfl, hb⟩; refine ⟨_, rfl, ?_⟩; replace HO378 := Aside0.mk (Kd.R_below (by (with_reducible repeat (first | apply Kd.R_alloc | apply Kd.R_drewN | apply Kd.R_drew)); exact (Kd.R_mono (far6 gb385 (Kd.R_types HO378.out BK385.out (by decide))) (fun _ h_ => h_.1))) hb); replace HO381 := Aside0.mk (Kd.R_below (by (with_reducible repeat (first | apply Kd.R_alloc | apply Kd.R_drewN | apply Kd.R_drew)); exact (Kd.R_mono (far6 gb385 (Kd.R_types HO381.out BK385.out (by decide))) (fun _ h_ => h_.1))) hb); replace HO384 := Aside0.mk (Kd.R_below (by (with_reducible repeat (first | apply Kd.R_alloc | apply Kd.R_drewN | apply Kd.R_drew)); exact (Kd.R_mono (far6 gb385 (Kd.R_types HO384.out BK385.out (by decide))) (fun _ h_ => h_.1))) hb); replace HB := LB HB hb; replace BK385 := Aside0.mk (blk_below (g := gb385) (o := .cells #[.int .i64 t373, .int .i64 t374, .bool t375, .slice Ao14 t376.length co14, .slice Ao15 t379.length co15, .slice Ao16 t382.length co16] 26 (0, 0)) (PX6 BK385) hb)))
  (try simp only [Act.put, List.setIfInBounds_toArray, List.set_cons_zero, List.set_cons_succ])
  go_cut [32] (fun v32 wc => ∃ (kq : Nat) (x32_8 : Bool), v32 = .bool x32_8 ∧ Aside0 (missivelaw12_MailWider.j0 kq l2 a3 t386 x32_8 t373 t374 t375 t376 t379 t382 = some r) ∧ Aside0 (kq ≤ k) ∧ Aside0 (Kd.R Kd.string 9 wc w.heap.size (fun k_ => some k_ ≠ ((.slice Ao15 t379.length co15) : Value).ownBlock ∧ some k_ ≠ ((.slice Ao16 t382.length co16) : Value).ownBlock) (.slice Ao14 t376.length co14) t376) ∧ Aside0 (Kd.R Kd.string 9 wc w.heap.size (fun k_ => some k_ ≠ ((.slice Ao14 t376.length co14) : Value).ownBlock ∧ some k_ ≠ ((.slice Ao16 t382.length co16) : Value).ownBlock) (.slice Ao15 t379.length co15) t379) ∧ Aside0 (Kd.R Kd.string 9 wc w.heap.size (fun k_ => some k_ ≠ ((.slice Ao14 t376.length co14) : Value).ownBlock ∧ some k_ ≠ ((.slice Ao15 t379.length co15) : Value).ownBlock) (.slice Ao16 t382.length co16) t382) ∧ Aside0 (wc.heap[gb385]? = some (.cells #[.int .i64 t373, .int .i64 t374, .bool t375, (.slice Ao14 t376.length co14), (.slice Ao15 t379.length co15), (.slice Ao16 t382.length co16)] 26 (0, 0))) ∧ Aside0 (Below w.heap.size w wc))
  case first =>
   have H := HC9.out
   clear HC9
   obtain ⟨t387, A18, H⟩ := bindQ H
   replace H : (if t387 = true then ((mail_InText.f k t373 t374 t375 t376 t379 t382 t386).bind fun t388 => (missivelaw12_MailWider.j0 k l2 a3 t386 (!t388) t373 t374 t375 t376 t379 t382)) else ((mail_InBody.f t373 t374 t375 t376 t379 t382 t386).bind fun t389 => (if t389 = true then ((mail_InText.f k t373 t374 t375 t376 t379 t382 t386).bind fun t390 => (missivelaw12_MailWider.j0 k l2 a3 t386 (!t390) t373 t374 t375 t376 t379 t382)) else (missivelaw12_MailWider.j0 k l2 a3 t386 false t373 t374 t375 t376 t379 t382)))) = some r := H
   by_cases c19 : t387 = true
   ·
    subst c19
    have H1 : ((mail_InText.f k t373 t374 t375 t376 t379 t382 t386).bind fun t388 => (missivelaw12_MailWider.j0 k l2 a3 t386 (!t388) t373 t374 t375 t376 t379 t382)) = some r := by rw [if_pos rfl] at H; exact H
    clear H
    have H := H1
    clear H1
    obtain ⟨t388, A20, H⟩ := bindQ H
    replace H : (missivelaw12_MailWider.j0 k l2 a3 t386 (!t388) t373 t374 t375 t376 t379 t382) = some r := H
    have H' := Aside0.mk H
    clear H
    obtain ⟨hcz21_0, hcz21_1, hcz21_2, hcz21_3, hcz21_4, hcz21_5, hfz21_0, hfz21_1, hfz21_2, hfz21_3, hfz21_4, hfz21_5⟩ := cf6 BK385
    go_wp2_with (first | ((with_reducible refine gate_callee (f := 13) rfl ?_); refine goesLQ (some 21) Tryz.func13 #[.agg #[.int .i64 t373, .int .i64 t374, .bool t375, .slice Ao14 t376.length co14, .slice Ao15 t379.length co15, .slice Ao16 t382.length co16], .string a1, .string t386] ?_; (with_reducible refine (mail_InField.calls k t373 t374 t375 _ _ t376 _ _ t379 _ _ t382 a1 t386 true _ ?side1 ?side2 ?side3 ?side4 ?side5 ?side6 ?side7 A18.out).mono ?_); (case side1 => exact CX HO378); (case side2 => exact (cyQ HO378)); (case side3 => exact CX HO381); (case side4 => exact (cyQ HO381)); (case side5 => exact CX HO384); (case side6 => exact (cyQ HO384)); (case side7 => first | exact TX HTAB HB | exact TD HTAB); rintro e w22 ⟨rfl, hb⟩; refine ⟨_, rfl, ?_⟩; replace HO378 := RB HO378 hb; replace HO381 := RB HO381 hb; replace HO384 := RB HO384 hb; replace BK385 := BB BK385 hb; replace HB := LB HB hb; obtain ⟨hcz23_0, hcz23_1, hcz23_2, hcz23_3, hcz23_4, hcz23_5, hfz23_0, hfz23_1, hfz23_2, hfz23_3, hfz23_4, hfz23_5⟩ := cf6 BK385) | (go_at_call 9; (with_reducible refine (mail_InText.calls k t373 t374 t375 _ _ t376 _ _ t379 _ _ t382 t386 t388 _ ?side1 ?side2 ?side3 ?side4 ?side5 ?side6 ?side7 A20.out).mono ?_); (case side1 => exact CX HO378); (case side2 => exact (cyQ HO378)); (case side3 => exact CX HO381); (case side4 => exact (cyQ HO381)); (case side5 => exact CX HO384); (case side6 => exact (cyQ HO384)); (case side7 => first | exact TX HTAB HB | exact TD HTAB); rintro e w24 ⟨rfl, hb⟩; replace HO378 := RB HO378 hb; replace HO381 := RB HO381 hb; replace HO384 := RB HO384 hb; replace BK385 := BB BK385 hb; replace HB := LB HB hb))
    go_meet
    case rel => exact ⟨_, (!t388), (by first | rfl | (simp [*]; done)), H', ⟨by first | omega | exact Nat.le_refl _⟩, ⟨RX HO378⟩, ⟨RX HO381⟩, ⟨RX HO384⟩, ⟨BX BK385⟩, ⟨LX HB⟩⟩
   ·
    replace c19 := Bool.eq_false_iff.mpr c19
    subst c19
    have H1 : ((mail_InBody.f t373 t374 t375 t376 t379 t382 t386).bind fun t389 => (if t389 = true then ((mail_InText.f k t373 t374 t375 t376 t379 t382 t386).bind fun t390 => (missivelaw12_MailWider.j0 k l2 a3 t386 (!t390) t373 t374 t375 t376 t379 t382)) else (missivelaw12_MailWider.j0 k l2 a3 t386 false t373 t374 t375 t376 t379 t382))) = some r := by rw [if_neg (show ¬ (false = true) by decide)] at H; exact H
    clear H
    have H := H1
    clear H1
    obtain ⟨t389, A25, H⟩ := bindQ H
    replace H : (if t389 = true then ((mail_InText.f k t373 t374 t375 t376 t379 t382 t386).bind fun t390 => (missivelaw12_MailWider.j0 k l2 a3 t386 (!t390) t373 t374 t375 t376 t379 t382)) else (missivelaw12_MailWider.j0 k l2 a3 t386 false t373 t374 t375 t376 t379 t382)) = some r := H
    by_cases c26 : t389 = true
    ·
     subst c26
     have H1 : ((mail_InText.f k t373 t374 t375 t376 t379 t382 t386).bind fun t390 => (missivelaw12_MailWider.j0 k l2 a3 t386 (!t390) t373 t374 t375 t376 t379 t382)) = some r := by rw [if_pos rfl] at H; exact H
     clear H
     have H := H1
     clear H1
     obtain ⟨t390, A27, H⟩ := bindQ H
     replace H : (missivelaw12_MailWider.j0 k l2 a3 t386 (!t390) t373 t374 t375 t376 t379 t382) = some r := H
     have H' := Aside0.mk H
     clear H
     obtain ⟨hcz28_0, hcz28_1, hcz28_2, hcz28_3, hcz28_4, hcz28_5, hfz28_0, hfz28_1, hfz28_2, hfz28_3, hfz28_4, hfz28_5⟩ := cf6 BK385
     go_wp2_with (first | ((with_reducible refine gate_callee (f := 13) rfl ?_); refine goesLQ (some 21) Tryz.func13 #[.agg #[.int .i64 t373, .int .i64 t374, .bool t375, .slice Ao14 t376.length co14, .slice Ao15 t379.length co15, .slice Ao16 t382.length co16], .string a1, .string t386] ?_; (with_reducible refine (mail_InField.calls k t373 t374 t375 _ _ t376 _ _ t379 _ _ t382 a1 t386 false _ ?side1 ?side2 ?side3 ?side4 ?side5 ?side6 ?side7 A18.out).mono ?_); (case side1 => exact CX HO378); (case side2 => exact (cyQ HO378)); (case side3 => exact CX HO381); (case side4 => exact (cyQ HO381)); (case side5 => exact CX HO384); (case side6 => exact (cyQ HO384)); (case side7 => first | exact TX HTAB HB | exact TD HTAB); rintro e w29 ⟨rfl, hb⟩; refine ⟨_, rfl, ?_⟩; replace HO378 := RB HO378 hb; replace HO381 := RB HO381 hb; replace HO384 := RB HO384 hb; replace BK385 := BB BK385 hb; replace HB := LB HB hb; obtain ⟨hcz30_0, hcz30_1, hcz30_2, hcz30_3, hcz30_4, hcz30_5, hfz30_0, hfz30_1, hfz30_2, hfz30_3, hfz30_4, hfz30_5⟩ := cf6 BK385) | (go_at_call 14; (with_reducible refine (mail_InBody.calls t373 t374 t375 _ _ t376 _ _ t379 _ _ t382 t386 true _ ?side1 ?side2 ?side3 ?side4 ?side5 ?side6 ?side7 A25.out).mono ?_); (case side1 => exact CX HO378); (case side2 => exact (cyQ HO378)); (case side3 => exact CX HO381); (case side4 => exact (cyQ HO381)); (case side5 => exact CX HO384); (case side6 => exact (cyQ HO384)); (case side7 => first | exact TX HTAB HB | exact TD HTAB); rintro e w31 ⟨rfl, hb⟩; replace HO378 := RB HO378 hb; replace HO381 := RB HO381 hb; replace HO384 := RB HO384 hb; replace BK385 := BB BK385 hb; replace HB := LB HB hb; obtain ⟨hcz32_0, hcz32_1, hcz32_2, hcz32_3, hcz32_4, hcz32_5, hfz32_0, hfz32_1, hfz32_2, hfz32_3, hfz32_4, hfz32_5⟩ := cf6 BK385) | (go_at_call 9; (with_reducible refine (mail_InText.calls k t373 t374 t375 _ _ t376 _ _ t379 _ _ t382 t386 t390 _ ?side1 ?side2 ?side3 ?side4 ?side5 ?side6 ?side7 A27.out).mono ?_); (case side1 => exact CX HO378); (case side2 => exact (cyQ HO378)); (case side3 => exact CX HO381); (case side4 => exact (cyQ HO381)); (case side5 => exact CX HO384); (case side6 => exact (cyQ HO384)); (case side7 => first | exact TX HTAB HB | exact TD HTAB); rintro e w33 ⟨rfl, hb⟩; replace HO378 := RB HO378 hb; replace HO381 := RB HO381 hb; replace HO384 := RB HO384 hb; replace BK385 := BB BK385 hb; replace HB := LB HB hb))
     go_meet
     case rel => exact ⟨_, (!t390), (by first | rfl | (simp [*]; done)), H', ⟨by first | omega | exact Nat.le_refl _⟩, ⟨RX HO378⟩, ⟨RX HO381⟩, ⟨RX HO384⟩, ⟨BX BK385⟩, ⟨LX HB⟩⟩
    ·
     replace c26 := Bool.eq_false_iff.mpr c26
     subst c26
     have H1 : (missivelaw12_MailWider.j0 k l2 a3 t386 false t373 t374 t375 t376 t379 t382) = some r := by rw [if_neg (show ¬ (false = true) by decide)] at H; exact H
     clear H
     have H := H1
     clear H1
     have H' := Aside0.mk H
     clear H
     obtain ⟨hcz34_0, hcz34_1, hcz34_2, hcz34_3, hcz34_4, hcz34_5, hfz34_0, hfz34_1, hfz34_2, hfz34_3, hfz34_4, hfz34_5⟩ := cf6 BK385
     go_wp2_with (first | ((with_reducible refine gate_callee (f := 13) rfl ?_); refine goesLQ (some 21) Tryz.func13 #[.agg #[.int .i64 t373, .int .i64 t374, .bool t375, .slice Ao14 t376.length co14, .slice Ao15 t379.length co15, .slice Ao16 t382.length co16], .string a1, .string t386] ?_; (with_reducible refine (mail_InField.calls k t373 t374 t375 _ _ t376 _ _ t379 _ _ t382 a1 t386 false _ ?side1 ?side2 ?side3 ?side4 ?side5 ?side6 ?side7 A18.out).mono ?_); (case side1 => exact CX HO378); (case side2 => exact (cyQ HO378)); (case side3 => exact CX HO381); (case side4 => exact (cyQ HO381)); (case side5 => exact CX HO384); (case side6 => exact (cyQ HO384)); (case side7 => first | exact TX HTAB HB | exact TD HTAB); rintro e w35 ⟨rfl, hb⟩; refine ⟨_, rfl, ?_⟩; replace HO378 := RB HO378 hb; replace HO381 := RB HO381 hb; replace HO384 := RB HO384 hb; replace BK385 := BB BK385 hb; replace HB := LB HB hb; obtain ⟨hcz36_0, hcz36_1, hcz36_2, hcz36_3, hcz36_4, hcz36_5, hfz36_0, hfz36_1, hfz36_2, hfz36_3, hfz36_4, hfz36_5⟩ := cf6 BK385) | (go_at_call 14; (with_reducible refine (mail_InBody.calls t373 t374 t375 _ _ t376 _ _ t379 _ _ t382 t386 false _ ?side1 ?side2 ?side3 ?side4 ?side5 ?side6 ?side7 A25.out).mono ?_); (case side1 => exact CX HO378); (case side2 => exact (cyQ HO378)); (case side3 => exact CX HO381); (case side4 => exact (cyQ HO381)); (case side5 => exact CX HO384); (case side6 => exact (cyQ HO384)); (case side7 => first | exact TX HTAB HB | exact TD HTAB); rintro e w37 ⟨rfl, hb⟩; replace HO378 := RB HO378 hb; replace HO381 := RB HO381 hb; replace HO384 := RB HO384 hb; replace BK385 := BB BK385 hb; replace HB := LB HB hb))
     go_meet
     case rel => exact ⟨_, (false), (by first | rfl | (simp [*]; done)), H', ⟨by first | omega | exact Nat.le_refl _⟩, ⟨RX HO378⟩, ⟨RX HO381⟩, ⟨RX HO384⟩, ⟨BX BK385⟩, ⟨LX HB⟩⟩
  case rest =>
   clear HC9
   obtain ⟨kq, x32_8, rfl, HA, HJ8, HO_386003, HO_386004, HO_386005, BK385, HB⟩ := hcut
   cases kq with
   | zero => exact absurd HA.out (by simp [missivelaw12_MailWider.j0])
   | succ kj8 =>
    have H := HA.out
    clear HA
    simp only [missivelaw12_MailWider.j0] at H
    by_cases c38 : x32_8 = true
    ·
     subst c38
     have H1 : (some false) = some r := by rw [if_pos rfl] at H; exact H
     clear H
     have H := H1
     clear H1
     obtain rfl := Option.some.inj H
     cases hr
    ·
     replace c38 := Bool.eq_false_iff.mpr c38
     subst c38
     have H1 : (if a3 < 0 then (missivelaw12_MailWider.j1 kj8 l2 a3 t386 true t373 t374 t375 t376 t379 t382) else (missivelaw12_MailWider.j1 kj8 l2 a3 t386 (decide (a3 > (l2.length : Int))) t373 t374 t375 t376 t379 t382)) = some r := by rw [if_neg (show ¬ (false = true) by decide)] at H; exact H
     clear H
     have H := H1
     clear H1
     have HC39 := Aside0.mk H
     clear H
     go_upto_region 7 with (fail)
     go_cut [40] (fun v40 wc => ∃ (kq : Nat) (x40_38 : Bool), v40 = .bool x40_38 ∧ Aside0 (missivelaw12_MailWider.j1 kq l2 a3 t386 x40_38 t373 t374 t375 t376 t379 t382 = some r) ∧ Aside0 (kq ≤ kj8) ∧ Aside0 (Kd.R Kd.string 9 wc w.heap.size (fun k_ => some k_ ≠ ((.slice Ao15 t379.length co15) : Value).ownBlock ∧ some k_ ≠ ((.slice Ao16 t382.length co16) : Value).ownBlock) (.slice Ao14 t376.length co14) t376) ∧ Aside0 (Kd.R Kd.string 9 wc w.heap.size (fun k_ => some k_ ≠ ((.slice Ao14 t376.length co14) : Value).ownBlock ∧ some k_ ≠ ((.slice Ao16 t382.length co16) : Value).ownBlock) (.slice Ao15 t379.length co15) t379) ∧ Aside0 (Kd.R Kd.string 9 wc w.heap.size (fun k_ => some k_ ≠ ((.slice Ao14 t376.length co14) : Value).ownBlock ∧ some k_ ≠ ((.slice Ao15 t379.length co15) : Value).ownBlock) (.slice Ao16 t382.length co16) t382) ∧ Aside0 (wc.heap[gb385]? = some (.cells #[.int .i64 t373, .int .i64 t374, .bool t375, (.slice Ao14 t376.length co14), (.slice Ao15 t379.length co15), (.slice Ao16 t382.length co16)] 26 (0, 0))) ∧ Aside0 (Below w.heap.size w wc))
     case first =>
      have H := HC39.out
      clear HC39
      by_cases c40 : a3 < 0
      ·
       rw [if_pos c40] at H
       have c40b0 : decide (a3 < 0) = true := decide_eq_true c40
       clear c40
       (first | rw [c40b0] | (simp only [i64_w, i32_w]; rw [c40b0]) | skip)
       have H' := Aside0.mk H
       clear H
       go_wp2
       go_meet
       case rel => exact ⟨_, (true), (by first | rfl | (simp [*]; done)), H', ⟨by have := HJ8.out; first | omega | exact Nat.le_refl _⟩, ⟨RX HO_386003⟩, ⟨RX HO_386004⟩, ⟨RX HO_386005⟩, ⟨BX BK385⟩, ⟨LX HB⟩⟩
      ·
       rw [if_neg c40] at H
       have c40b0 : decide (a3 < 0) = false := decide_eq_false c40
       clear c40
       (first | rw [c40b0] | (simp only [i64_w, i32_w]; rw [c40b0]) | skip)
       have H' := Aside0.mk H
       clear H
       go_wp2
       go_meet
       case rel => exact ⟨_, (decide (a3 > (l2.length : Int))), (by first | rfl | (simp [*]; done)), H', ⟨by have := HJ8.out; first | omega | exact Nat.le_refl _⟩, ⟨RX HO_386003⟩, ⟨RX HO_386004⟩, ⟨RX HO_386005⟩, ⟨BX BK385⟩, ⟨LX HB⟩⟩
     case rest =>
      clear HC39
      obtain ⟨kq, x40_38, rfl, HA, HJ38, HO_386003, HO_386004, HO_386005, BK385, HB⟩ := hcut
      cases kq with
      | zero => exact absurd HA.out (by simp [missivelaw12_MailWider.j1])
      | succ kj38 =>
       have H := HA.out
       clear HA
       simp only [missivelaw12_MailWider.j1] at H
       by_cases c41 : x40_38 = true
       ·
        subst c41
        have H1 : (some true) = some r := by rw [if_pos rfl] at H; exact H
        clear H
        have H := H1
        clear H1
        obtain rfl := Option.some.inj H
        go_wp2
        go_ret
        exact retQ HB
       ·
        replace c41 := Bool.eq_false_iff.mpr c41
        subst c41
        have H1 : (if 0 ≤ a3 then (if a3 ≤ (l2.length : Int) then ((mail_What.f kj38 (l2.take (a3 : Int).toNat)).bind fun t392 => ((mail_InText.f kj38 t373 t374 t375 t376 t379 t382 t386).bind fun t393 => (if t393 = true then ((mail_InText.f kj38 t373 t374 t375 t376 t379 t382 t392).bind fun t394 => (if t394 = true then ((mail_InBody.f t373 t374 t375 t376 t379 t382 t386).bind fun t395 => (if t395 = true then ((mail_InBody.f t373 t374 t375 t376 t379 t382 t392).bind fun t396 => (some t396)) else (some true))) else (some false))) else ((mail_InBody.f t373 t374 t375 t376 t379 t382 t386).bind fun t397 => (if t397 = true then ((mail_InBody.f t373 t374 t375 t376 t379 t382 t392).bind fun t398 => (some t398)) else (some true)))))) else (none)) else (none)) = some r := by rw [if_neg (show ¬ (false = true) by decide)] at H; exact H
        clear H
        have H := H1
        clear H1
        by_cases c42 : 0 ≤ a3
        ·
         rw [if_pos c42] at H
         have c42b0 := eq_true c42
         have c42b1 : decide (0 ≤ a3) = true := decide_eq_true c42
         clear c42
         by_cases c43 : a3 ≤ (l2.length : Int)
         ·
          rw [if_pos c43] at H
          have c43b0 := eq_true c43
          have c43b1 : decide (a3 ≤ (l2.length : Int)) = true := decide_eq_true c43
          clear c43
          obtain ⟨t392, A44, H⟩ := bindQ H
          replace H : ((mail_InText.f kj38 t373 t374 t375 t376 t379 t382 t386).bind fun t393 => (if t393 = true then ((mail_InText.f kj38 t373 t374 t375 t376 t379 t382 t392).bind fun t394 => (if t394 = true then ((mail_InBody.f t373 t374 t375 t376 t379 t382 t386).bind fun t395 => (if t395 = true then ((mail_InBody.f t373 t374 t375 t376 t379 t382 t392).bind fun t396 => (some t396)) else (some true))) else (some false))) else ((mail_InBody.f t373 t374 t375 t376 t379 t382 t386).bind fun t397 => (if t397 = true then ((mail_InBody.f t373 t374 t375 t376 t379 t382 t392).bind fun t398 => (some t398)) else (some true))))) = some r := H
          obtain ⟨t393, A45, H⟩ := bindQ H
          replace H : (if t393 = true then ((mail_InText.f kj38 t373 t374 t375 t376 t379 t382 t392).bind fun t394 => (if t394 = true then ((mail_InBody.f t373 t374 t375 t376 t379 t382 t386).bind fun t395 => (if t395 = true then ((mail_InBody.f t373 t374 t375 t376 t379 t382 t392).bind fun t396 => (some t396)) else (some true))) else (some false))) else ((mail_InBody.f t373 t374 t375 t376 t379 t382 t386).bind fun t397 => (if t397 = true then ((mail_InBody.f t373 t374 t375 t376 t379 t382 t392).bind fun t398 => (some t398)) else (some true)))) = some r := H
          by_cases c46 : t393 = true
          ·
           subst c46
           have H1 : ((mail_InText.f kj38 t373 t374 t375 t376 t379 t382 t392).bind fun t394 => (if t394 = true then ((mail_InBody.f t373 t374 t375 t376 t379 t382 t386).bind fun t395 => (if t395 = true then ((mail_InBody.f t373 t374 t375 t376 t379 t382 t392).bind fun t396 => (some t396)) else (some true))) else (some false))) = some r := by rw [if_pos rfl] at H; exact H
           clear H
           have H := H1
           clear H1
           obtain ⟨t394, A47, H⟩ := bindQ H
           replace H : (if t394 = true then ((mail_InBody.f t373 t374 t375 t376 t379 t382 t386).bind fun t395 => (if t395 = true then ((mail_InBody.f t373 t374 t375 t376 t379 t382 t392).bind fun t396 => (some t396)) else (some true))) else (some false)) = some r := H
           by_cases c48 : t394 = true
           ·
            subst c48
            have H1 : ((mail_InBody.f t373 t374 t375 t376 t379 t382 t386).bind fun t395 => (if t395 = true then ((mail_InBody.f t373 t374 t375 t376 t379 t382 t392).bind fun t396 => (some t396)) else (some true))) = some r := by rw [if_pos rfl] at H; exact H
            clear H
            have H := H1
            clear H1
            obtain ⟨t395, A49, H⟩ := bindQ H
            replace H : (if t395 = true then ((mail_InBody.f t373 t374 t375 t376 t379 t382 t392).bind fun t396 => (some t396)) else (some true)) = some r := H
            by_cases c50 : t395 = true
            ·
             subst c50
             have H1 : ((mail_InBody.f t373 t374 t375 t376 t379 t382 t392).bind fun t396 => (some t396)) = some r := by rw [if_pos rfl] at H; exact H
             clear H
             have H := H1
             clear H1
             obtain ⟨t396, A51, H⟩ := bindQ H
             replace H : (some t396) = some r := H
             obtain rfl := Option.some.inj H
             obtain ⟨i052, hi052, _, hsz52, _⟩ := info_parts info21
             obtain ⟨hcut52, hA52, hC52⟩ := print_take_of (P := Tryz.prog) (Value.int .i32) 0 22 21 .i64 Tryz.underlying22 hi052 hsz52 A2 c2 l2 a3 (ofD) (ofD) HC2.out
             have HR391 := Aside0.mk (Kd.C_of_reads (h1 := fun _ => rfl) (hA52 _ (Kd.reads_of_C HR2.out)))
             have HC391 := Aside0.mk hC52
             clear hA52 hC52 hi052 hsz52
             go_wp2_with (first | ((with_reducible refine gate_callee (f := 8) rfl ?_); refine goesL_ (some 44) rfl rfl Tryz.func8 (by kernel_rfl) rfl #[.slice A2 (l2.take (a3 : Int).toNat).length c2] rfl (by (try simp only [List.map_toArray, List.map_cons, List.map_nil]); first | done | (rw [show (l2.take (a3 : Int).toNat).length = a3.toNat from (by rw [List.length_take]; have h_ : (a3 : Int) ≤ (l2.length : Int) := ofD; omega)] <;> rfl) | rfl | (simp only [List.length_drop, List.length_take]; rfl)) ?_; (with_reducible refine (mail_What.calls kj38 _ _ (l2.take (a3 : Int).toNat) t392 _ ?side1 ?side2 A44.out).mono ?_); (case side1 => exact CB HR391 HB); (case side2 => exact HC391.out); rintro e w53 ⟨rfl, hb⟩; refine ⟨_, rfl, ?_⟩; replace HO_386003 := RB HO_386003 hb; replace HO_386004 := RB HO_386004 hb; replace HO_386005 := RB HO_386005 hb; replace BK385 := BB BK385 hb; replace HB := LB HB hb; obtain ⟨hcz54_0, hcz54_1, hcz54_2, hcz54_3, hcz54_4, hcz54_5, hfz54_0, hfz54_1, hfz54_2, hfz54_3, hfz54_4, hfz54_5⟩ := cf6 BK385) | ((with_reducible refine gate_callee (f := 9) rfl ?_); refine goesLQ (some 47) Tryz.func9 #[.agg #[.int .i64 t373, .int .i64 t374, .bool t375, .slice Ao14 t376.length co14, .slice Ao15 t379.length co15, .slice Ao16 t382.length co16], .string t386] ?_; (with_reducible refine (mail_InText.calls kj38 t373 t374 t375 _ _ t376 _ _ t379 _ _ t382 t386 true _ ?side1 ?side2 ?side3 ?side4 ?side5 ?side6 ?side7 A45.out).mono ?_); (case side1 => exact CX HO_386003); (case side2 => exact (cyQ HO_386003)); (case side3 => exact CX HO_386004); (case side4 => exact (cyQ HO_386004)); (case side5 => exact CX HO_386005); (case side6 => exact (cyQ HO_386005)); (case side7 => first | exact TX HTAB HB | exact TD HTAB); rintro e w55 ⟨rfl, hb⟩; refine ⟨_, rfl, ?_⟩; replace HO_386003 := RB HO_386003 hb; replace HO_386004 := RB HO_386004 hb; replace HO_386005 := RB HO_386005 hb; replace BK385 := BB BK385 hb; replace HB := LB HB hb; obtain ⟨hcz56_0, hcz56_1, hcz56_2, hcz56_3, hcz56_4, hcz56_5, hfz56_0, hfz56_1, hfz56_2, hfz56_3, hfz56_4, hfz56_5⟩ := cf6 BK385) | (go_at_call 9; (with_reducible refine (mail_InText.calls kj38 t373 t374 t375 _ _ t376 _ _ t379 _ _ t382 t392 true _ ?side1 ?side2 ?side3 ?side4 ?side5 ?side6 ?side7 A47.out).mono ?_); (case side1 => exact CX HO_386003); (case side2 => exact (cyQ HO_386003)); (case side3 => exact CX HO_386004); (case side4 => exact (cyQ HO_386004)); (case side5 => exact CX HO_386005); (case side6 => exact (cyQ HO_386005)); (case side7 => first | exact TX HTAB HB | exact TD HTAB); rintro e w57 ⟨rfl, hb⟩; replace HO_386003 := RB HO_386003 hb; replace HO_386004 := RB HO_386004 hb; replace HO_386005 := RB HO_386005 hb; replace BK385 := BB BK385 hb; replace HB := LB HB hb; obtain ⟨hcz58_0, hcz58_1, hcz58_2, hcz58_3, hcz58_4, hcz58_5, hfz58_0, hfz58_1, hfz58_2, hfz58_3, hfz58_4, hfz58_5⟩ := cf6 BK385) | (go_at_call 14; (with_reducible refine (mail_InBody.calls t373 t374 t375 _ _ t376 _ _ t379 _ _ t382 t386 true _ ?side1 ?side2 ?side3 ?side4 ?side5 ?side6 ?side7 A49.out).mono ?_); (case side1 => exact CX HO_386003); (case side2 => exact (cyQ HO_386003)); (case side3 => exact CX HO_386004); (case side4 => exact (cyQ HO_386004)); (case side5 => exact CX HO_386005); (case side6 => exact (cyQ HO_386005)); (case side7 => first | exact TX HTAB HB | exact TD HTAB); rintro e w59 ⟨rfl, hb⟩; replace HO_386003 := RB HO_386003 hb; replace HO_386004 := RB HO_386004 hb; replace HO_386005 := RB HO_386005 hb; replace BK385 := BB BK385 hb; replace HB := LB HB hb; obtain ⟨hcz60_0, hcz60_1, hcz60_2, hcz60_3, hcz60_4, hcz60_5, hfz60_0, hfz60_1, hfz60_2, hfz60_3, hfz60_4, hfz60_5⟩ := cf6 BK385) | (go_at_call 14; (with_reducible refine (mail_InBody.calls t373 t374 t375 _ _ t376 _ _ t379 _ _ t382 t392 t396 _ ?side1 ?side2 ?side3 ?side4 ?side5 ?side6 ?side7 A51.out).mono ?_); (case side1 => exact CX HO_386003); (case side2 => exact (cyQ HO_386003)); (case side3 => exact CX HO_386004); (case side4 => exact (cyQ HO_386004)); (case side5 => exact CX HO_386005); (case side6 => exact (cyQ HO_386005)); (case side7 => first | exact TX HTAB HB | exact TD HTAB); rintro e w61 ⟨rfl, hb⟩; replace HO_386003 := RB HO_386003 hb; replace HO_386004 := RB HO_386004 hb; replace HO_386005 := RB HO_386005 hb; replace BK385 := BB BK385 hb; replace HB := LB HB hb))
             go_ret
             exact retQ HB
            ·
             replace c50 := Bool.eq_false_iff.mpr c50
             subst c50
             have H1 : (some true) = some r := by rw [if_neg (show ¬ (false = true) by decide)] at H; exact H
             clear H
             have H := H1
             clear H1
             obtain rfl := Option.some.inj H
             obtain ⟨i062, hi062, _, hsz62, _⟩ := info_parts info21
             obtain ⟨hcut62, hA62, hC62⟩ := print_take_of (P := Tryz.prog) (Value.int .i32) 0 22 21 .i64 Tryz.underlying22 hi062 hsz62 A2 c2 l2 a3 (ofD) (ofD) HC2.out
             have HR391 := Aside0.mk (Kd.C_of_reads (h1 := fun _ => rfl) (hA62 _ (Kd.reads_of_C HR2.out)))
             have HC391 := Aside0.mk hC62
             clear hA62 hC62 hi062 hsz62
             go_wp2_with (first | ((with_reducible refine gate_callee (f := 8) rfl ?_); refine goesL_ (some 44) rfl rfl Tryz.func8 (by kernel_rfl) rfl #[.slice A2 (l2.take (a3 : Int).toNat).length c2] rfl (by (try simp only [List.map_toArray, List.map_cons, List.map_nil]); first | done | (rw [show (l2.take (a3 : Int).toNat).length = a3.toNat from (by rw [List.length_take]; have h_ : (a3 : Int) ≤ (l2.length : Int) := ofD; omega)] <;> rfl) | rfl | (simp only [List.length_drop, List.length_take]; rfl)) ?_; (with_reducible refine (mail_What.calls kj38 _ _ (l2.take (a3 : Int).toNat) t392 _ ?side1 ?side2 A44.out).mono ?_); (case side1 => exact CB HR391 HB); (case side2 => exact HC391.out); rintro e w63 ⟨rfl, hb⟩; refine ⟨_, rfl, ?_⟩; replace HO_386003 := RB HO_386003 hb; replace HO_386004 := RB HO_386004 hb; replace HO_386005 := RB HO_386005 hb; replace BK385 := BB BK385 hb; replace HB := LB HB hb; obtain ⟨hcz64_0, hcz64_1, hcz64_2, hcz64_3, hcz64_4, hcz64_5, hfz64_0, hfz64_1, hfz64_2, hfz64_3, hfz64_4, hfz64_5⟩ := cf6 BK385) | ((with_reducible refine gate_callee (f := 9) rfl ?_); refine goesLQ (some 47) Tryz.func9 #[.agg #[.int .i64 t373, .int .i64 t374, .bool t375, .slice Ao14 t376.length co14, .slice Ao15 t379.length co15, .slice Ao16 t382.length co16], .string t386] ?_; (with_reducible refine (mail_InText.calls kj38 t373 t374 t375 _ _ t376 _ _ t379 _ _ t382 t386 true _ ?side1 ?side2 ?side3 ?side4 ?side5 ?side6 ?side7 A45.out).mono ?_); (case side1 => exact CX HO_386003); (case side2 => exact (cyQ HO_386003)); (case side3 => exact CX HO_386004); (case side4 => exact (cyQ HO_386004)); (case side5 => exact CX HO_386005); (case side6 => exact (cyQ HO_386005)); (case side7 => first | exact TX HTAB HB | exact TD HTAB); rintro e w65 ⟨rfl, hb⟩; refine ⟨_, rfl, ?_⟩; replace HO_386003 := RB HO_386003 hb; replace HO_386004 := RB HO_386004 hb; replace HO_386005 := RB HO_386005 hb; replace BK385 := BB BK385 hb; replace HB := LB HB hb; obtain ⟨hcz66_0, hcz66_1, hcz66_2, hcz66_3, hcz66_4, hcz66_5, hfz66_0, hfz66_1, hfz66_2, hfz66_3, hfz66_4, hfz66_5⟩ := cf6 BK385) | (go_at_call 9; (with_reducible refine (mail_InText.calls kj38 t373 t374 t375 _ _ t376 _ _ t379 _ _ t382 t392 true _ ?side1 ?side2 ?side3 ?side4 ?side5 ?side6 ?side7 A47.out).mono ?_); (case side1 => exact CX HO_386003); (case side2 => exact (cyQ HO_386003)); (case side3 => exact CX HO_386004); (case side4 => exact (cyQ HO_386004)); (case side5 => exact CX HO_386005); (case side6 => exact (cyQ HO_386005)); (case side7 => first | exact TX HTAB HB | exact TD HTAB); rintro e w67 ⟨rfl, hb⟩; replace HO_386003 := RB HO_386003 hb; replace HO_386004 := RB HO_386004 hb; replace HO_386005 := RB HO_386005 hb; replace BK385 := BB BK385 hb; replace HB := LB HB hb; obtain ⟨hcz68_0, hcz68_1, hcz68_2, hcz68_3, hcz68_4, hcz68_5, hfz68_0, hfz68_1, hfz68_2, hfz68_3, hfz68_4, hfz68_5⟩ := cf6 BK385) | (go_at_call 14; (with_reducible refine (mail_InBody.calls t373 t374 t375 _ _ t376 _ _ t379 _ _ t382 t386 false _ ?side1 ?side2 ?side3 ?side4 ?side5 ?side6 ?side7 A49.out).mono ?_); (case side1 => exact CX HO_386003); (case side2 => exact (cyQ HO_386003)); (case side3 => exact CX HO_386004); (case side4 => exact (cyQ HO_386004)); (case side5 => exact CX HO_386005); (case side6 => exact (cyQ HO_386005)); (case side7 => first | exact TX HTAB HB | exact TD HTAB); rintro e w69 ⟨rfl, hb⟩; replace HO_386003 := RB HO_386003 hb; replace HO_386004 := RB HO_386004 hb; replace HO_386005 := RB HO_386005 hb; replace BK385 := BB BK385 hb; replace HB := LB HB hb))
             go_ret
             exact retQ HB
           ·
            replace c48 := Bool.eq_false_iff.mpr c48
            subst c48
            have H1 : (some false) = some r := by rw [if_neg (show ¬ (false = true) by decide)] at H; exact H
            clear H
            have H := H1
            clear H1
            obtain rfl := Option.some.inj H
            cases hr
          ·
           replace c46 := Bool.eq_false_iff.mpr c46
           subst c46
           have H1 : ((mail_InBody.f t373 t374 t375 t376 t379 t382 t386).bind fun t397 => (if t397 = true then ((mail_InBody.f t373 t374 t375 t376 t379 t382 t392).bind fun t398 => (some t398)) else (some true))) = some r := by rw [if_neg (show ¬ (false = true) by decide)] at H; exact H
           clear H
           have H := H1
           clear H1
           obtain ⟨t397, A76, H⟩ := bindQ H
           replace H : (if t397 = true then ((mail_InBody.f t373 t374 t375 t376 t379 t382 t392).bind fun t398 => (some t398)) else (some true)) = some r := H
           by_cases c77 : t397 = true
           ·
            subst c77
            have H1 : ((mail_InBody.f t373 t374 t375 t376 t379 t382 t392).bind fun t398 => (some t398)) = some r := by rw [if_pos rfl] at H; exact H
            clear H
            have H := H1
            clear H1
            obtain ⟨t398, A78, H⟩ := bindQ H
            replace H : (some t398) = some r := H
            obtain rfl := Option.some.inj H
            obtain ⟨i079, hi079, _, hsz79, _⟩ := info_parts info21
            obtain ⟨hcut79, hA79, hC79⟩ := print_take_of (P := Tryz.prog) (Value.int .i32) 0 22 21 .i64 Tryz.underlying22 hi079 hsz79 A2 c2 l2 a3 (ofD) (ofD) HC2.out
            have HR391 := Aside0.mk (Kd.C_of_reads (h1 := fun _ => rfl) (hA79 _ (Kd.reads_of_C HR2.out)))
            have HC391 := Aside0.mk hC79
            clear hA79 hC79 hi079 hsz79
            go_wp2_with (first | ((with_reducible refine gate_callee (f := 8) rfl ?_); refine goesL_ (some 44) rfl rfl Tryz.func8 (by kernel_rfl) rfl #[.slice A2 (l2.take (a3 : Int).toNat).length c2] rfl (by (try simp only [List.map_toArray, List.map_cons, List.map_nil]); first | done | (rw [show (l2.take (a3 : Int).toNat).length = a3.toNat from (by rw [List.length_take]; have h_ : (a3 : Int) ≤ (l2.length : Int) := ofD; omega)] <;> rfl) | rfl | (simp only [List.length_drop, List.length_take]; rfl)) ?_; (with_reducible refine (mail_What.calls kj38 _ _ (l2.take (a3 : Int).toNat) t392 _ ?side1 ?side2 A44.out).mono ?_); (case side1 => exact CB HR391 HB); (case side2 => exact HC391.out); rintro e w80 ⟨rfl, hb⟩; refine ⟨_, rfl, ?_⟩; replace HO_386003 := RB HO_386003 hb; replace HO_386004 := RB HO_386004 hb; replace HO_386005 := RB HO_386005 hb; replace BK385 := BB BK385 hb; replace HB := LB HB hb; obtain ⟨hcz81_0, hcz81_1, hcz81_2, hcz81_3, hcz81_4, hcz81_5, hfz81_0, hfz81_1, hfz81_2, hfz81_3, hfz81_4, hfz81_5⟩ := cf6 BK385) | ((with_reducible refine gate_callee (f := 9) rfl ?_); refine goesLQ (some 47) Tryz.func9 #[.agg #[.int .i64 t373, .int .i64 t374, .bool t375, .slice Ao14 t376.length co14, .slice Ao15 t379.length co15, .slice Ao16 t382.length co16], .string t386] ?_; (with_reducible refine (mail_InText.calls kj38 t373 t374 t375 _ _ t376 _ _ t379 _ _ t382 t386 false _ ?side1 ?side2 ?side3 ?side4 ?side5 ?side6 ?side7 A45.out).mono ?_); (case side1 => exact CX HO_386003); (case side2 => exact (cyQ HO_386003)); (case side3 => exact CX HO_386004); (case side4 => exact (cyQ HO_386004)); (case side5 => exact CX HO_386005); (case side6 => exact (cyQ HO_386005)); (case side7 => first | exact TX HTAB HB | exact TD HTAB); rintro e w82 ⟨rfl, hb⟩; refine ⟨_, rfl, ?_⟩; replace HO_386003 := RB HO_386003 hb; replace HO_386004 := RB HO_386004 hb; replace HO_386005 := RB HO_386005 hb; replace BK385 := BB BK385 hb; replace HB := LB HB hb; obtain ⟨hcz83_0, hcz83_1, hcz83_2, hcz83_3, hcz83_4, hcz83_5, hfz83_0, hfz83_1, hfz83_2, hfz83_3, hfz83_4, hfz83_5⟩ := cf6 BK385) | (go_at_call 14; (with_reducible refine (mail_InBody.calls t373 t374 t375 _ _ t376 _ _ t379 _ _ t382 t386 true _ ?side1 ?side2 ?side3 ?side4 ?side5 ?side6 ?side7 A76.out).mono ?_); (case side1 => exact CX HO_386003); (case side2 => exact (cyQ HO_386003)); (case side3 => exact CX HO_386004); (case side4 => exact (cyQ HO_386004)); (case side5 => exact CX HO_386005); (case side6 => exact (cyQ HO_386005)); (case side7 => first | exact TX HTAB HB | exact TD HTAB); rintro e w84 ⟨rfl, hb⟩; replace HO_386003 := RB HO_386003 hb; replace HO_386004 := RB HO_386004 hb; replace HO_386005 := RB HO_386005 hb; replace BK385 := BB BK385 hb; replace HB := LB HB hb; obtain ⟨hcz85_0, hcz85_1, hcz85_2, hcz85_3, hcz85_4, hcz85_5, hfz85_0, hfz85_1, hfz85_2, hfz85_3, hfz85_4, hfz85_5⟩ := cf6 BK385) | (go_at_call 14; (with_reducible refine (mail_InBody.calls t373 t374 t375 _ _ t376 _ _ t379 _ _ t382 t392 t398 _ ?side1 ?side2 ?side3 ?side4 ?side5 ?side6 ?side7 A78.out).mono ?_); (case side1 => exact CX HO_386003); (case side2 => exact (cyQ HO_386003)); (case side3 => exact CX HO_386004); (case side4 => exact (cyQ HO_386004)); (case side5 => exact CX HO_386005); (case side6 => exact (cyQ HO_386005)); (case side7 => first | exact TX HTAB HB | exact TD HTAB); rintro e w86 ⟨rfl, hb⟩; replace HO_386003 := RB HO_386003 hb; replace HO_386004 := RB HO_386004 hb; replace HO_386005 := RB HO_386005 hb; replace BK385 := BB BK385 hb; replace HB := LB HB hb))
            go_ret
            exact retQ HB
           ·
            replace c77 := Bool.eq_false_iff.mpr c77
            subst c77
            have H1 : (some true) = some r := by rw [if_neg (show ¬ (false = true) by decide)] at H; exact H
            clear H
            have H := H1
            clear H1
            obtain rfl := Option.some.inj H
            obtain ⟨i087, hi087, _, hsz87, _⟩ := info_parts info21
            obtain ⟨hcut87, hA87, hC87⟩ := print_take_of (P := Tryz.prog) (Value.int .i32) 0 22 21 .i64 Tryz.underlying22 hi087 hsz87 A2 c2 l2 a3 (ofD) (ofD) HC2.out
            have HR391 := Aside0.mk (Kd.C_of_reads (h1 := fun _ => rfl) (hA87 _ (Kd.reads_of_C HR2.out)))
            have HC391 := Aside0.mk hC87
            clear hA87 hC87 hi087 hsz87
            go_wp2_with (first | ((with_reducible refine gate_callee (f := 8) rfl ?_); refine goesL_ (some 44) rfl rfl Tryz.func8 (by kernel_rfl) rfl #[.slice A2 (l2.take (a3 : Int).toNat).length c2] rfl (by (try simp only [List.map_toArray, List.map_cons, List.map_nil]); first | done | (rw [show (l2.take (a3 : Int).toNat).length = a3.toNat from (by rw [List.length_take]; have h_ : (a3 : Int) ≤ (l2.length : Int) := ofD; omega)] <;> rfl) | rfl | (simp only [List.length_drop, List.length_take]; rfl)) ?_; (with_reducible refine (mail_What.calls kj38 _ _ (l2.take (a3 : Int).toNat) t392 _ ?side1 ?side2 A44.out).mono ?_); (case side1 => exact CB HR391 HB); (case side2 => exact HC391.out); rintro e w88 ⟨rfl, hb⟩; refine ⟨_, rfl, ?_⟩; replace HO_386003 := RB HO_386003 hb; replace HO_386004 := RB HO_386004 hb; replace HO_386005 := RB HO_386005 hb; replace BK385 := BB BK385 hb; replace HB := LB HB hb; obtain ⟨hcz89_0, hcz89_1, hcz89_2, hcz89_3, hcz89_4, hcz89_5, hfz89_0, hfz89_1, hfz89_2, hfz89_3, hfz89_4, hfz89_5⟩ := cf6 BK385) | ((with_reducible refine gate_callee (f := 9) rfl ?_); refine goesLQ (some 47) Tryz.func9 #[.agg #[.int .i64 t373, .int .i64 t374, .bool t375, .slice Ao14 t376.length co14, .slice Ao15 t379.length co15, .slice Ao16 t382.length co16], .string t386] ?_; (with_reducible refine (mail_InText.calls kj38 t373 t374 t375 _ _ t376 _ _ t379 _ _ t382 t386 false _ ?side1 ?side2 ?side3 ?side4 ?side5 ?side6 ?side7 A45.out).mono ?_); (case side1 => exact CX HO_386003); (case side2 => exact (cyQ HO_386003)); (case side3 => exact CX HO_386004); (case side4 => exact (cyQ HO_386004)); (case side5 => exact CX HO_386005); (case side6 => exact (cyQ HO_386005)); (case side7 => first | exact TX HTAB HB | exact TD HTAB); rintro e w90 ⟨rfl, hb⟩; refine ⟨_, rfl, ?_⟩; replace HO_386003 := RB HO_386003 hb; replace HO_386004 := RB HO_386004 hb; replace HO_386005 := RB HO_386005 hb; replace BK385 := BB BK385 hb; replace HB := LB HB hb; obtain ⟨hcz91_0, hcz91_1, hcz91_2, hcz91_3, hcz91_4, hcz91_5, hfz91_0, hfz91_1, hfz91_2, hfz91_3, hfz91_4, hfz91_5⟩ := cf6 BK385) | (go_at_call 14; (with_reducible refine (mail_InBody.calls t373 t374 t375 _ _ t376 _ _ t379 _ _ t382 t386 false _ ?side1 ?side2 ?side3 ?side4 ?side5 ?side6 ?side7 A76.out).mono ?_); (case side1 => exact CX HO_386003); (case side2 => exact (cyQ HO_386003)); (case side3 => exact CX HO_386004); (case side4 => exact (cyQ HO_386004)); (case side5 => exact CX HO_386005); (case side6 => exact (cyQ HO_386005)); (case side7 => first | exact TX HTAB HB | exact TD HTAB); rintro e w92 ⟨rfl, hb⟩; replace HO_386003 := RB HO_386003 hb; replace HO_386004 := RB HO_386004 hb; replace HO_386005 := RB HO_386005 hb; replace BK385 := BB BK385 hb; replace HB := LB HB hb))
            go_ret
            exact retQ HB
         ·
          rw [if_neg c43] at H
          exact absurd H (by simp)
        ·
         rw [if_neg c42] at H
         exact absurd H (by simp)
 ·
  replace c6 := Bool.eq_false_iff.mpr c6
  subst c6
  have H1 : (some false) = some r := by rw [if_neg (show ¬ (false = true) by decide)] at H; exact H
  clear H
  have H := H1
  clear H1
  obtain rfl := Option.some.inj H
  cases hr
end Go.Proofs.YtigcbajcifhinaaGreatDoor.V
namespace Go.Proofs.YtigcbajcifhinaaGreatDoor.Tot
open Go.RowKit Go.Proofs.YtigcbajcifhinaaGreatDoor.V Go.Proofs.YtigcbajcifhinaaGreatDoor.Txt Go.Proofs.YtigcbajcifhinaaGreatDoorW.PrintWords
open Go.Proofs.YtigcbajcifhinaaGreatDoor.Fold (digF lettersF outF nAt stepN)
theorem valid_iff (r : Int) : Lib.validRune r = true ↔ (0 ≤ r ∧ r < 55296) ∨ (57343 < r ∧ r ≤ 1114111) := by
 unfold Lib.validRune
 rw [decide_eq_true_iff]
theorem enc_bad {r : Int} (h : ¬ Lib.validRune r = true) : Lib.encodeRune r = Lib.encodeRune 65533 := by
 rw [valid_iff] at h
 unfold Lib.encodeRune
 rw [Lib.encodeRuneZ_bad (by omega), Lib.encodeRuneZ_three (by omega)]
 rfl
theorem one_one (n : Int) : oneF (oneF n) = oneF n := (one_facts n).2
theorem EvP.rounds {α : Type} {g : Nat → Option α} {r : α} (h : EvP g (fun x => x = r)) : ∃ k, g k = some r := h.ev.rounds
theorem wider_j1 {N : Nat} (hN : N ≤ 1048576) {r : Doc} (h : DocP N r) (l : List Int) (hl : l.length ≤ 1048576) (n : Int) (x : Bool) (hx : x = true ∨ (0 ≤ n ∧ n ≤ (l.length : Int))) :
  EvP (fun k => missivelaw12_MailWider.j1 k l n (whatF l) x r.1 r.2.1 r.2.2.1 r.2.2.2.1 r.2.2.2.2.1 r.2.2.2.2.2) (fun y => y = true) := by
 refine EvP.step (fun k => by rw [missivelaw12_MailWider.j1]) ?_
 refine EvP.ite (fun _ => EvP.now _ rfl) (fun hn => ?_)
 have hb : 0 ≤ n ∧ n ≤ (l.length : Int) := hx.resolve_left hn
 refine EvP.yes hb.1 (EvP.yes hb.2 (EvP.bind (Ev.p (ev_What (l.take n.toNat) (by rw [List.length_take]; omega))) fun t ht => ?_))
 subst ht
 have B : EvP (fun _ => (mail_InBody.f r.1 r.2.1 r.2.2.1 r.2.2.2.1 r.2.2.2.2.1 r.2.2.2.2.2 (whatF l)).bind fun t => (if t = true then ((mail_InBody.f r.1 r.2.1 r.2.2.1 r.2.2.2.1 r.2.2.2.2.1 r.2.2.2.2.2 (whatF (l.take n.toNat))).bind fun t => (some t)) else (some true))) (fun y => y = true) := by
  refine EvP.bind (ev_InBody hN h _) fun b hb' => EvP.ite (fun hc => EvP.bind (ev_InBody hN h _) fun c hc' => EvP.now _ ?_) (fun _ => EvP.now _ rfl)
  rw [hc']
  exact bodyF_less _ l _ (hb' ▸ hc)
 refine EvP.bind (ev_InText hN h _) fun a ha => EvP.ite (fun hc => EvP.bind (ev_InText hN h _) fun c hc' => EvP.yes ?_ B) (fun _ => B)
 rw [hc']
 exact textF_less r l _ (ha ▸ hc)
theorem wider_j0 {N : Nat} (hN : N ≤ 1048576) {r : Doc} (h : DocP N r) (l : List Int) (hl : l.length ≤ 1048576) (n : Int) :
  EvP (fun k => missivelaw12_MailWider.j0 k l n (whatF l) false r.1 r.2.1 r.2.2.1 r.2.2.2.1 r.2.2.2.2.1 r.2.2.2.2.2) (fun y => y = true) := by
 refine EvP.step (fun k => by rw [missivelaw12_MailWider.j0]) ?_
 refine EvP.not (by decide) (EvP.ite (fun _ => wider_j1 hN h l hl n _ (.inl rfl)) (fun h0 => wider_j1 hN h l hl n _ ?_))
 by_cases hc : n > (l.length : Int)
 · exact .inl (decide_eq_true hc)
 · exact .inr ⟨by omega, by omega⟩
theorem wider_law (s name : ByteArray) (l : List Int) (n : Int) (hs : s.size ≤ 1048576) (hn : name.size ≤ 1048576) (hl : l.length ≤ 1048576) : ∃ k, missivelaw12_MailWider.f k s name l n = some true := by
 refine EvP.rounds ?_
 unfold missivelaw12_MailWider.f
 refine EvP.bind ev_lives fun t ht => EvP.yes ht (EvP.bind (t_Read s hs) fun r hr => EvP.bind (Ev.p (ev_What l (by omega))) fun w hw => ?_)
 subst hw
 refine EvP.bind (ev_InField hs hr name (whatF l) hn) fun a ha => EvP.ite (fun hc => ?_) (fun _ => ?_)
 ·
  refine EvP.bind (ev_InText hs hr _) fun b hb => ?_
  rw [hb, ha hc]
  exact wider_j0 hs hr l hl n
 ·
  refine EvP.bind (ev_InBody hs hr _) fun b hb => EvP.ite (fun hc => ?_) (fun _ => wider_j0 hs hr l hl n)
  refine EvP.bind (ev_InText hs hr _) fun c hc' => ?_
  have e : c = true := by
   rw [hc']
   unfold textF
   rw [← hb, hc, Bool.or_true]
  rw [e]
  exact wider_j0 hs hr l hl n
end Go.Proofs.YtigcbajcifhinaaGreatDoor.Tot
