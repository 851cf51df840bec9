/- A row of gauges, read. -/
import Derived.Test.YtfkckhliffbcjaaGreatDoorH1
import Derived.Deep.SlicePairs
namespace Go.Proofs.YtfkckhliffbcjaaGreatDoor.Meas
open Go.ChangeShapes Go.WideShapes Go.ChangeAt Go.RowKit Go.Deep Go.Proofs.YtfkckhliffbcjaaGreatDoor.V Go.Proofs.YtfkckhliffbcjaaGreatDoorW.PrintWords

set_option maxRecDepth 100000 in
theorem gaugeRow {H : Type} {enc : TypeId × Value → H} {W : World} {base : Nat} {spare : Nat → Bool} {held : Bool} {fuel : Nat} {A : Option Addr} {len cap : Nat} {d : DataW H} {p : List MemPlace} (h : DataW.trod enc Tryz.prog W base spare held fuel 22 [.slice A len cap] = some (d, p)) :
    ∃ l : List S24, l.length = len ∧ Kd.C k24 W A len l ∧ len ≤ cap ∧ len ≤ Rows.uptoBulk d := by
  rcases open_slice Tryz.underlying22 h with ⟨hcs, hx⟩ | ⟨a, ln, cp, m, n, D, Pl, hcs, hb, hl, hm, hmm, hx, hall⟩
  · simp at hcs
    obtain ⟨rfl, rfl, rfl⟩ := hcs
    exact ⟨[], rfl, ⟨rfl, by decide, fun h => absurd h (by decide)⟩, Nat.le_refl _, Nat.zero_le _⟩
  · simp at hcs
    obtain ⟨rfl, rfl, rfl⟩ := hcs
    have ce : Tryz.prog.cellsOf 24 = 3 := by kernel_rfl
    have hlm : len ≤ m := by rw [hmm]; split <;> omega
    have each : ∀ i, i < len → ∃ g : S24, W.cell? (a.add (i * 3)) = some (.int .i64 g.f0) ∧ W.cell? (a.add (i * 3 + 1)) = some (.int .i64 g.f1) ∧ W.cell? (a.add (i * 3 + 2)) = some (.int .i64 g.f2) := by
      intro i hi
      obtain ⟨cs', h1, h2⟩ := hall i (by omega)
      rw [ce] at h1
      obtain ⟨_, hlen, hcell⟩ := World.cells?_some h1
      obtain ⟨xs, k, hk, hxy, _, hxl, hf⟩ := DataW.trod_struct Tryz.underlying24 h2
      match xs, hxl, cs', hlen with
      | [y0, y1, y2], _, [v0, v1, v2], _ =>
        have g0 := hf 0 _ rfl
        have g1 := hf 1 _ rfl
        have g2 := hf 2 _ rfl
        have c3 : Tryz.prog.cellsOf 3 = 1 := by kernel_rfl
        simp [c3] at g0 g1 g2
        have e0 := hcell 0 (by omega)
        have e1 := hcell 1 (by omega)
        have e2 := hcell 2 (by omega)
        rw [Deep.add_add] at e0 e1 e2
        obtain ⟨z0, q0, _⟩ := DataW.trod_int Tryz.underlying3 g0
        obtain ⟨z1, q1, _⟩ := DataW.trod_int Tryz.underlying3 g1
        obtain ⟨z2, q2, _⟩ := DataW.trod_int Tryz.underlying3 g2
        simp at q0 q1 q2
        subst q0 q1 q2
        exact ⟨⟨z0, z1, z2⟩, by simpa using e0, by simpa using e1, by simpa using e2⟩
    haveI : Inhabited S24 := ⟨z24⟩
    obtain ⟨q, hq⟩ := choose_lt each
    refine ⟨(List.range len).map q, by simp, ⟨by simp, by unfold maxLen at hm; omega, fun _ => ⟨a, rfl, fun j g hj => ?_⟩⟩, hl, ?_⟩
    · obtain ⟨hj1, rfl⟩ : j < len ∧ q j = g := by
        rw [List.getElem?_map, Option.map_eq_some_iff] at hj
        obtain ⟨i, hi, he⟩ := hj
        obtain ⟨h1, h2⟩ := List.getElem?_eq_some_iff.1 hi
        simp at h1 h2
        subst h2
        exact ⟨h1, he⟩
      refine ⟨[.int .i64 (q j).f0, .int .i64 (q j).f1, .int .i64 (q j).f2], rfl, k24_mk W _, fun i u hu => ?_⟩
      obtain ⟨h0, h1, h2⟩ := hq j hj1
      match i, hu with
      | 0, hu => cases hu; exact h0
      | 1, hu => cases hu; exact h1
      | 2, hu => cases hu; exact h2
    · injection hx with hd _
      rw [hd]
      refine Nat.le_trans ?_ (bulk_slice _ _)
      simp
end Go.Proofs.YtfkckhliffbcjaaGreatDoor.Meas
