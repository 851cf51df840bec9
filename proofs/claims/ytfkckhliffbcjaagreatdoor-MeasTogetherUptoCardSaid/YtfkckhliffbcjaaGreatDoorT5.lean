/- The library's sort brings marks in order. -/
import Derived.Test.YtfkckhliffbcjaaGreatDoorShelf
import Derived.Test.YtfkckhliffbcjaaGreatDoorT4
namespace Go.Proofs.YtfkckhliffbcjaaGreatDoor.Tier
open Go.RowKit Go.Sort Go.Shelf Go.Lib Go.Proofs.YtfkckhliffbcjaaGreatDoorW.PrintWords

theorem cmpM_lt (x y : Mk) : ltOf cmpM x y = decide (x.1.val < y.1.val ∨ (x.1.val = y.1.val ∧ x.2.val < y.2.val)) := by
  unfold ltOf cmpM
  rw [decide_eq_decide]
  have h1 : ∀ a b : Nat, a < b → cmpN a b = -1 := fun a b h => if_pos h
  have h2 : ∀ a b : Nat, a = b → cmpN a b = 0 := fun a b h => by unfold cmpN; rw [if_neg (by omega), if_neg (by omega)]
  have h3 : ∀ a b : Nat, b < a → cmpN a b = 1 := fun a b h => by unfold cmpN; rw [if_neg (by omega), if_pos h]
  rcases Nat.lt_trichotomy x.1.val y.1.val with h | h | h
  · rw [h1 _ _ h]; simp [orN]; omega
  · rw [h2 _ _ h]
    simp only [orN, if_true]
    rcases Nat.lt_trichotomy x.2.val y.2.val with g | g | g
    · rw [h1 _ _ g]; omega
    · rw [h2 _ _ g]; omega
    · rw [h3 _ _ g]; omega
  · rw [h3 _ _ h]; simp [orN]; omega

theorem mk_ext (x y : Mk) (h1 : x.1.val = y.1.val) (h2 : x.2.val = y.2.val) : x = y := by
  obtain ⟨⟨a, _⟩, ⟨b, _⟩⟩ := x
  obtain ⟨⟨c, _⟩, ⟨d, _⟩⟩ := y
  simp at h1 h2
  subst h1 h2
  rfl

theorem swoM : SWO (ltOf cmpM) where
  irrefl x := by rw [cmpM_lt]; simp
  trans x y z h1 h2 := by rw [cmpM_lt] at *; simp at *; omega
  ntrans x y z h1 h2 := by rw [cmpM_lt] at *; simp at *; omega

theorem totM (x y : Mk) (h1 : ltOf cmpM x y = false) (h2 : ltOf cmpM y x = false) : x = y := by
  rw [cmpM_lt] at *
  simp at h1 h2
  exact mk_ext x y (by omega) (by omega)

theorem leM_eq : (fun x y => !(ltOf cmpM) y x) = leM := by
  funext x y
  rw [cmpM_lt]
  unfold leM
  rw [← decide_not, decide_eq_decide]
  omega

set_option maxHeartbeats 1000000 in
theorem sort_said : SortSaid := by
  intro W base blk cap d ho hd
  have hH := holds_of_owns encC ho
  have hblk : blk < W.heap.size := own_lt ho blk rfl
  have eg : ∀ args w, (callFunc 110 args).run Tryz.prog w = .ok (.enter 110 args) w := enters_of Tryz.func110 (by kernel_rfl) rfl
  have hcmp : CmpLays1 Tryz.prog 110 #[] encC cmpM blk 0 d.toArray.size W := by
    intro m os dk _ x y
    refine (before_calls x y (sortWorld encC W blk 0 m dk os)).mono ?_
    rintro e w' ⟨rfl, o, rfl⟩
    exact ⟨rfl, 0, #[o], alloc_eq_grow _ _⟩
  have hcon := Any.slices_SortFunc_total Tryz.sortC encC (fun _ => rfl) cmpM swoM 110 #[] blk 0 cap d.toArray W eg hcmp hH hblk (by simp; omega) totM
  rw [leM_eq] at hcon
  have hcon' : Calls Tryz.prog 109 #[.slice (some ⟨blk, 0, none⟩) d.length cap, .func (.func 110) #[] #[]] W _ := hcon
  refine hcon'.mono ?_
  rintro e w' ⟨rfl, n, os, rfl⟩
  refine ⟨rfl, ?_, grownBy_sortWorld encC _⟩
  exact owns_sortWorld encC (sortM_length d) ho
end Go.Proofs.YtfkckhliffbcjaaGreatDoor.Tier
