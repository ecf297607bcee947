/- How a slice of turns reads. -/
import Derived.Test.YtjomgaafnpbmhaaZ
namespace Go.Proofs.Ytjomgaafnpbmhaa.AD
open Go.RowKit Go.WideShapes Go.ChangeShapes Go.Deep Go.ChangeAt Go.Joins
open Go.Proofs.Ytjomgaafnpbmhaa
open Go.Proofs.Ytjomgaafnpbmhaa.A Go.Proofs.Ytjomgaafnpbmhaa.K Go.Proofs.Ytjomgaafnpbmhaa.B Go.Proofs.Ytjomgaafnpbmhaa.L Go.Proofs.Ytjomgaafnpbmhaa.M Go.Proofs.Ytjomgaafnpbmhaa.N Go.Proofs.Ytjomgaafnpbmhaa.Z
set_option linter.unusedVariables false
set_option linter.unusedSimpArgs false

theorem cells4 : Try.prog.cellsOf 4 = 1 := by kernel_rfl
theorem cells28 : Try.prog.cellsOf 28 = 1 := by kernel_rfl
theorem cells46 : Try.prog.cellsOf 46 = 7 := by kernel_rfl
section
variable {H : Type} {enc : TypeId × Value → H} {w : World} {base : Nat} {spare : Nat → Bool} {held : Bool}
theorem one_of {α : Type} {cs : List α} {i : Nat} {v : α} (h : (cs.drop i).take 1 = [v]) : cs[i]? = some v := by
  have h0 : ((cs.drop i).take 1)[0]? = some v := by rw [h]; rfl
  rw [List.getElem?_take] at h0
  simpa using h0
/-- Five cells that read as an entry. -/
theorem entry_cells {n : Nat} {cs : List Value} {y : DataW H × List MemPlace} (h : DataW.trod enc Try.prog w base spare held n 30 cs = some y) :
    ∃ (x : Entry) (A : Option Addr) (c : Nat), cs[0]? = some (.int .i64 x.stamp) ∧ cs[1]? = some (.int .i64 x.sensor) ∧ cs[2]? = some (.int .i64 x.seq) ∧ cs[3]? = some (.bool x.input) ∧ cs[4]? = some (.slice A x.data.length c) ∧ Sl w 1 A x.data.length c (ints x.data) := by
  obtain ⟨ys, n', rfl, rfl, hlen, hyl, hf⟩ := DataW.trod_struct Try.underlying30 h
  have t0 : DataW.trod enc Try.prog w base spare held n' 3 ((cs.drop 0).take (Try.prog.cellsOf 3)) = ys[0]? := hf 0 _ rfl
  have t1 : DataW.trod enc Try.prog w base spare held n' 3 ((cs.drop 1).take (Try.prog.cellsOf 3)) = ys[1]? := hf 1 _ rfl
  have t2 : DataW.trod enc Try.prog w base spare held n' 3 ((cs.drop 2).take (Try.prog.cellsOf 3)) = ys[2]? := hf 2 _ rfl
  have t3 : DataW.trod enc Try.prog w base spare held n' 4 ((cs.drop 3).take (Try.prog.cellsOf 4)) = ys[3]? := hf 3 _ rfl
  have t4 : DataW.trod enc Try.prog w base spare held n' 28 ((cs.drop 4).take (Try.prog.cellsOf 28)) = ys[4]? := hf 4 _ rfl
  simp only [cells3, cells4, cells28] at t0 t1 t2 t3 t4
  have g : ∀ i, i < 5 → ∃ z, ys[i]? = some z := fun i hi => ⟨_, List.getElem?_eq_getElem (by rw [hyl]; exact hi)⟩
  obtain ⟨z0, e0⟩ := g 0 (by omega)
  obtain ⟨z1, e1⟩ := g 1 (by omega)
  obtain ⟨z2, e2⟩ := g 2 (by omega)
  obtain ⟨z3, e3⟩ := g 3 (by omega)
  obtain ⟨z4, e4⟩ := g 4 (by omega)
  rw [e0] at t0
  rw [e1] at t1
  rw [e2] at t2
  rw [e3] at t3
  rw [e4] at t4
  obtain ⟨a0, k0, _, _⟩ := DataW.trod_int Try.underlying3 t0
  obtain ⟨a1, k1, _, _⟩ := DataW.trod_int Try.underlying3 t1
  obtain ⟨a2, k2, _, _⟩ := DataW.trod_int Try.underlying3 t2
  obtain ⟨a3, k3, _⟩ := DataW.trod_bool Try.underlying4 t3
  have h4 : ∃ v, (cs.drop 4).take 1 = [v] := by
    have : cs.length = 5 := by rw [hlen, cells30]
    exact ⟨cs[4], by rw [List.drop_eq_getElem_cons (by omega)]; rfl⟩
  obtain ⟨v4, h4⟩ := h4
  rw [h4] at t4
  obtain ⟨A, c, l, rfl, hs⟩ := read_ints Try.underlying28 Try.underlying3 cells3 t4
  exact ⟨⟨a0, a1, a2, a3, l⟩, A, c, one_of k0, one_of k1, one_of k2, one_of k3, one_of h4, hs⟩

theorem turn_cells {n : Nat} {cs : List Value} {y : DataW H × List MemPlace} (h : DataW.trod enc Try.prog w base spare held n 46 cs = some y) :
    ∃ (x : Turn) (A : Option Addr) (c : Nat), cs[0]? = some (.int .i64 x.e.stamp) ∧ cs[1]? = some (.int .i64 x.e.sensor) ∧ cs[2]? = some (.int .i64 x.e.seq) ∧ cs[3]? = some (.bool x.e.input) ∧ cs[4]? = some (.slice A x.e.data.length c) ∧ Sl w 1 A x.e.data.length c (ints x.e.data) ∧ cs[5]? = some (.bool x.drops) ∧ cs[6]? = some (.int .i64 x.place) := by
  obtain ⟨ys, n', rfl, rfl, hlen, hyl, hf⟩ := DataW.trod_struct Try.underlying46 h
  have t0 : DataW.trod enc Try.prog w base spare held n' 30 ((cs.drop 0).take (Try.prog.cellsOf 30)) = ys[0]? := hf 0 _ rfl
  have t1 : DataW.trod enc Try.prog w base spare held n' 4 ((cs.drop 5).take (Try.prog.cellsOf 4)) = ys[1]? := hf 1 _ rfl
  have t2 : DataW.trod enc Try.prog w base spare held n' 3 ((cs.drop 6).take (Try.prog.cellsOf 3)) = ys[2]? := hf 2 _ rfl
  simp only [cells3, cells4, cells30] at t0 t1 t2
  have g : ∀ i, i < 3 → ∃ z, ys[i]? = some z := fun i hi => ⟨_, List.getElem?_eq_getElem (by rw [hyl]; exact hi)⟩
  obtain ⟨z0, e0⟩ := g 0 (by omega)
  obtain ⟨z1, e1⟩ := g 1 (by omega)
  obtain ⟨z2, e2⟩ := g 2 (by omega)
  rw [e0] at t0
  rw [e1] at t1
  rw [e2] at t2
  obtain ⟨x, A, c, k0, k1, k2, k3, k4, hs⟩ := entry_cells t0
  obtain ⟨b, k5, _⟩ := DataW.trod_bool Try.underlying4 t1
  obtain ⟨p, k6, _, _⟩ := DataW.trod_int Try.underlying3 t2
  have up : ∀ i v, ((cs.drop 0).take 5)[i]? = some v → cs[i]? = some v := fun i v hv => by
    rw [List.drop_zero, List.getElem?_take] at hv
    split at hv
    · exact hv
    · cases hv
  exact ⟨⟨x, b, p⟩, A, c, up _ _ k0, up _ _ k1, up _ _ k2, up _ _ k3, up _ _ k4, hs, one_of k5, one_of k6⟩

theorem read_turns {v : Value} {d : DataW H} {ps : List MemPlace} {r : Reach} {b0 : Nat} (hv : Value.okWide Try.prog w r b0 39 v) (h : DataW.Trod enc Try.prog w base spare held 39 v d ps) :
    ∃ (A : Option Addr) (c : Nat) (l : List Turn), v = .slice A l.length c ∧ Turned w A c l := by
  obtain ⟨a0, n0, c0, rfl⟩ := okWide_slice Try.underlying39 hv
  obtain ⟨fuel, hf⟩ := h
  rcases open_slice Try.underlying39 (by simpa [Value.cells] using hf) with ⟨hcs, _⟩ | ⟨a, len, cap, m, n, D, Pl, hcs, hb, hl, hm, hmm, hx, hi⟩
  · simp only [List.cons.injEq, and_true] at hcs
    exact ⟨none, 0, [], hcs, Nat.le_refl _, by omega, fun h => by cases h⟩
  · simp only [List.cons.injEq, and_true] at hcs
    have hlm : len ≤ m := by rw [hmm]; split <;> omega
    have hmx : cap ≤ 9223372036854775807 := by unfold maxLen at hm; omega
    rcases Nat.eq_zero_or_pos len with h0 | h0
    · exact ⟨some a, cap, [], by rw [hcs, h0]; rfl, Nat.zero_le _, hmx, fun h => by cases h⟩
    · obtain ⟨cs1, h1, t1⟩ := hi 0 (by omega)
      obtain ⟨x1, A1, c1, k1, _⟩ := turn_cells t1
      obtain ⟨_, _, hat1⟩ := World.cells?_some h1
      have hc1 := hat1 0 (by rw [cells46]; omega)
      rw [k1] at hc1
      have hadd : (a.add (0 * Try.prog.cellsOf 46)).add 0 = a := by rw [Nat.zero_mul]; unfold Addr.add; simp
      rw [hadd] at hc1
      obtain ⟨e1, hb1⟩ := plain_of hc1
      obtain ⟨l, hll, hR⟩ := list_of (R := fun i x => TurnIn w a.block (a.off + i * 7) x) len (fun i hil => by
        obtain ⟨cs, hcs', ht⟩ := hi i (by omega)
        obtain ⟨x, A, c, k0, k1, k2, k3, k4, hs, k5, k6⟩ := turn_cells ht
        obtain ⟨_, _, hat⟩ := World.cells?_some hcs'
        rw [cells46, e1, addr_add] at hat
        simp only [addr_add] at hat
        refine ⟨x, ⟨?_, ?_, ?_, ?_, A, c, ?_, hs⟩, ?_, ?_⟩
        · exact (hat 0 (by omega)).trans k0
        · exact (hat 1 (by omega)).trans k1
        · exact (hat 2 (by omega)).trans k2
        · exact (hat 3 (by omega)).trans k3
        · exact (hat 4 (by omega)).trans k4
        · exact (hat 5 (by omega)).trans k5
        · exact (hat 6 (by omega)).trans k6)
      exact ⟨some a, cap, l, by rw [hcs, hll], by rw [hll]; exact hl, hmx, fun _ => ⟨a.block, a.off, by rw [← e1], hb1, hR⟩⟩
end
end Go.Proofs.Ytjomgaafnpbmhaa.AD
