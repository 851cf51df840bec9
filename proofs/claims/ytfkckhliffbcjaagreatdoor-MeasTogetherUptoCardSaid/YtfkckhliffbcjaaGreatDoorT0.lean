/- A row of the call's own, behind the library's sort. -/
import Derived.OwnWalk
import Derived.Laws.OwnMore
import Derived.Sort.Grow
import Derived.Sort.Row
import Derived.Below
namespace Go.Proofs.YtfkckhliffbcjaaGreatDoor.Tier
open Go.RowKit Go.Sort
set_option linter.unusedSimpArgs false

section
variable {α : Type} [Inhabited α] (enc : α → Value)

theorem toArray_get! (xs : List α) (j : Nat) (hj : j < xs.length) : xs.toArray[j]! = xs[j] := by
  simp [getElem!_pos, hj]

theorem holds_of_owns {w : World} {base g cap : Nat} {e : TypeId} {xs : List α} (h : w.ownsRow base e 1 (.slice (some ⟨g, 0, none⟩) xs.length cap) xs.length (xs.map enc)) : Holds enc w g 0 xs.toArray := by
  intro j hj
  have hj' : j < xs.length := by simpa using hj
  rcases h.2 with ⟨h', _⟩ | ⟨g', cap', cur, h', hb, hg, hnc, hcm, hcs, htake⟩
  · cases h'
  · have hgg : g = g' := by injection h' with h'; injection h' with h'; injection h' with h'
    subst hgg
    constructor
    · have hc := h.cells (g := g) rfl j (enc xs[j]) (by simp [List.getElem?_eq_getElem hj'])
      have ha : (⟨g, 0, none⟩ : Addr).add j = ⟨g, 0 + j, none⟩ := by unfold Addr.add; split <;> simp_all
      rw [ha] at hc
      rw [hc, toArray_get! xs j hj']
    · simp [World.frozen?, hg]

theorem take_put (cur : Array Value) (ts : List α) (h : ts.length ≤ cur.size) : (putCells enc 0 ts.toArray cur).toList.take ts.length = ts.map enc := by
  apply List.ext_getElem?
  intro j
  by_cases hj : j < ts.length
  · rw [List.getElem?_take_of_lt hj, Array.getElem?_toList]
    have hc : j < cur.size := by omega
    simp [putCells, Array.getElem?_mapIdx, hc, hj, List.getElem?_eq_getElem hj, toArray_get!]
  · rw [List.getElem?_take_eq_none (by omega), List.getElem?_eq_none (by simp; omega)]

theorem heap_sortWorld {w : World} {g n : Nat} {os : Array Obj} {cur : Array Value} {e : TypeId} {fr : Nat × Nat} (d : Array α) (hb : w.heap[g]? = some (.cells cur e fr)) :
    (grow (putRow enc (Sort.ahead w n) g 0 d) os).heap[g]? = some (.cells (putCells enc 0 d cur) e fr) := by
  have hg : g < w.heap.size := (Array.getElem?_eq_some_iff.1 hb).1
  rw [heap_grow_old _ _ (by simpa using hg)]
  simp [putRow, mapBlock, Sort.ahead, Array.getElem?_modify, hb, onCells]

theorem grownBy_sortWorld {w : World} {g n : Nat} {os : Array Obj} (d : Array α) : w.grownBy (grow (putRow enc (Sort.ahead w n) g 0 d) os) (some g) := by
  refine ⟨rfl, rfl, rfl, by simp, fun k hk hne => ?_⟩
  rw [heap_grow_old _ _ (by simpa using hk)]
  have : g ≠ k := fun e => hne (by rw [e])
  simp [putRow, mapBlock, Sort.ahead, Array.getElem?_modify, this]

theorem owns_sortWorld {w : World} {base g cap n : Nat} {e : TypeId} {os : Array Obj} {xs ts : List α} (hl : ts.length = xs.length) (h : w.ownsRow base e 1 (.slice (some ⟨g, 0, none⟩) xs.length cap) xs.length (xs.map enc)) :
    (grow (putRow enc (Sort.ahead w n) g 0 ts.toArray) os).ownsRow base e 1 (.slice (some ⟨g, 0, none⟩) xs.length cap) xs.length (ts.map enc) := by
  rcases h.2 with ⟨h', _⟩ | ⟨g', cap', cur, h', hb, hg, hnc, hcm, hcs, htake⟩
  · cases h'
  · have hgg : g = g' := by injection h' with h'; injection h' with h'; injection h' with h'
    have hcc : cap = cap' := by injection h' with h1 h2 h3
    subst hgg hcc
    exact ⟨by simp [hl], .inr ⟨g, cap, _, rfl, hb, heap_sortWorld enc _ hg, hnc, hcm, by simp [putCells, hcs], by rw [Nat.mul_one, ← hl]; exact take_put enc cur ts (by omega)⟩⟩
end
end Go.Proofs.YtfkckhliffbcjaaGreatDoor.Tier
