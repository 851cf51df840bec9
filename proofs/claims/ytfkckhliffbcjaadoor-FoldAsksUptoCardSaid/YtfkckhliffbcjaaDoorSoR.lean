/- A row of whole numbers of the call's own, as the sort's words have it, and back. -/
import Derived.Test.YtfkckhliffbcjaaDoorX0
import Derived.Test.YtfkckhliffbcjaaDoorPl
import Derived.Sort.Grow
namespace Go.Proofs.YtfkckhliffbcjaaDoor.SoR
open Go.RowKit Go.Sort Go.Lib Go.Proofs.YtfkckhliffbcjaaDoorW.PrintWords

variable {k : IntKind} {e : TypeId} {w w1 : World} {base : Nat} {ok : Nat → Prop} {v : Value} {l : List Int}

/-- What an own row of at least one number is. -/
theorem open_R (h : (Kd.int k).R e w base ok v l) (hp : 0 < l.length) : ∃ g cap cur, v = .slice (some ⟨g, 0, none⟩) l.length cap ∧ ok g ∧ base ≤ g ∧ g < w.heap.size ∧ w.heap[g]? = some (.cells cur e (0, 0)) ∧ l.length ≤ cap ∧ cap ≤ maxLen ∧ cur.size = cap ∧
    Holds (Value.int k) w g 0 l.toArray := by
  have h' := h
  obtain ⟨hok, inner, ⟨hlen, ho⟩, hr⟩ := h
  rcases ho with ⟨_, h0⟩ | ⟨g, cap, cur, hv, hb, hh, hn, hm, hc, hx⟩
  · omega
  · have hg : g < w.heap.size := by
      have := (Array.getElem?_eq_some_iff.1 hh).1
      exact this
    subst hv
    refine ⟨g, cap, cur, rfl, hok g rfl, hb, hg, hh, hn, hm, by rw [hc]; exact Nat.mul_one _, fun j hj => ?_⟩
    have hj' : j < l.length := by simpa using hj
    have hcell := Kd.R_celln (0 : Int) h' (j : Int) (by omega) (by omega)
    rw [Int.toNat_natCast] at hcell
    rw [Nat.zero_add]
    refine ⟨hcell.1.trans ?_, hcell.2⟩
    congr 2
    simp [rdOf, getElem!_pos, hj', List.getD_eq_getElem?_getD]

/-- A row as it lies. -/
theorem make_R {g cap : Nat} {cur : Array Value} (hok : ok g) (hb : base ≤ g) (hh : w.heap[g]? = some (.cells cur e (0, 0))) (hn : l.length ≤ cap) (hm : cap ≤ maxLen) (hc : cur.size = cap) (hx : cur.toList.take l.length = l.map (Value.int k)) :
    (Kd.int k).R e w base ok (.slice (some ⟨g, 0, none⟩) l.length cap) l := by
  refine ⟨fun b hb' => ?_, l.map (Value.int k), ⟨?_, .inr ⟨g, cap, cur, rfl, hb, hh, hn, hm, ?_, ?_⟩⟩, ?_, fun j p hj => ?_⟩
  · have : g = b := by simpa [Value.ownBlock] using hb'
    rw [← this]
    exact hok
  · rw [List.length_map]
    exact (Nat.mul_one _).symm
  · exact hc.trans (Nat.mul_one _).symm
  · show cur.toList.take (l.length * 1) = _
    rw [Nat.mul_one]
    exact hx
  · rw [List.length_map]
    exact (Nat.mul_one _).symm
  · show ((l.map (Value.int k)).drop (j * 1)).take 1 = [Value.int k p]
    rw [Nat.mul_one]
    obtain ⟨hlt, hp⟩ := List.getElem?_eq_some_iff.1 hj
    rw [List.drop_eq_getElem_cons (by rw [List.length_map]; exact hlt), List.getElem_map, hp]
    rfl

theorem putCells_take (d : Array Int) (cur : Array Value) (m : Nat) (hm : m ≤ d.size) (hc : d.size ≤ cur.size) : (putCells (Value.int k) 0 d cur).toList.take m = (d.toList.take m).map (Value.int k) := by
  apply List.ext_getElem
  · simp [putCells]
    omega
  · intro i h1 h2
    have hi : i < m := by simp at h1; omega
    simp [putCells, List.getElem_take, getElem!_pos, show i < d.size by omega]

theorem heap_put (g : Nat) (d : Array Int) (n : Nat) (os : Array Obj) {cur : Array Value} (hh : w.heap[g]? = some (.cells cur e (0, 0))) :
    (grow (putRow (Value.int k) (Sort.ahead w n) g 0 d) os).heap[g]? = some (.cells (putCells (Value.int k) 0 d cur) e (0, 0)) := by
  have hg : g < w.heap.size := (Array.getElem?_eq_some_iff.1 hh).1
  rw [heap_grow_old _ _ (by simpa using hg)]
  simp [putRow, mapBlock, Array.getElem?_modify, hh, onCells]

theorem below_put (g : Nat) (d : Array Int) (n : Nat) (os : Array Obj) (hb : base ≤ g) (hs : base ≤ w.heap.size) : Below base w (grow (putRow (Value.int k) (Sort.ahead w n) g 0 d) os) := by
  refine ⟨rfl, rfl, rfl, by simp, fun j hj => ?_⟩
  rw [heap_grow_old _ _ (by simp; omega)]
  simp only [putRow, mapBlock, Array.getElem?_modify]
  rw [if_neg (by omega)]
  rfl

/-- What stands behind the sort: the row, in order. -/
theorem sorted_R {g cap : Nat} {cur : Array Value} {d : List Int} (hd : d.length = l.length) (hok : ok g) (hb : base ≤ g) (hh : w.heap[g]? = some (.cells cur e (0, 0))) (hn : l.length ≤ cap) (hm : cap ≤ maxLen) (hc : cur.size = cap) (n : Nat) (os : Array Obj) :
    (Kd.int k).R e (grow (putRow (Value.int k) (Sort.ahead w n) g 0 d.toArray) os) base ok (.slice (some ⟨g, 0, none⟩) d.length cap) d := by
  refine make_R hok hb (heap_put g d.toArray n os hh) (by omega) hm (by simpa [putCells] using hc) ?_
  rw [putCells_take _ _ _ (by simp) (by simp; omega)]
  simp

/-- What stands behind Compact: the row's beginning. -/
theorem compact_R {g cap : Nat} {cur : Array Value} {d c : List Int} (hd : c.length ≤ d.length) (ht : d.take c.length = c) (hok : ok g) (hb : base ≤ g) (hh : w.heap[g]? = some (.cells cur e (0, 0))) (hn : d.length ≤ cap) (hm : cap ≤ maxLen) (hc : cur.size = cap) (n : Nat) :
    (Kd.int k).R e (putRow (Value.int k) (Sort.ahead w n) g 0 d.toArray) base ok (.slice (some ⟨g, 0, none⟩) c.length cap) c := by
  have h := heap_put (k := k) g d.toArray n #[] hh
  rw [grow_empty] at h
  refine make_R hok hb h (by omega) hm (by simpa [putCells] using hc) ?_
  rw [putCells_take _ _ _ (by simpa using hd) (by simp; omega)]
  simp [ht]
end Go.Proofs.YtfkckhliffbcjaaDoor.SoR
