/- How a slice of entries reads. -/
import Derived.Test.YtjomgaafnpbmhaaM
namespace Go.Proofs.Ytjomgaafnpbmhaa.N
open Go.RowKit Go.WideShapes Go.ChangeShapes Go.Deep Go.ChangeAt Go.Joins
open Go.Proofs.Ytjomgaafnpbmhaa
open Go.Proofs.Ytjomgaafnpbmhaa.A Go.Proofs.Ytjomgaafnpbmhaa.K Go.Proofs.Ytjomgaafnpbmhaa.B Go.Proofs.Ytjomgaafnpbmhaa.L Go.Proofs.Ytjomgaafnpbmhaa.M
set_option linter.unusedVariables false
set_option linter.unusedSimpArgs false

theorem cells3 : Try.prog.cellsOf 3 = 1 := by kernel_rfl
theorem cells30 : Try.prog.cellsOf 30 = 5 := by kernel_rfl

section
variable {H : Type} {enc : TypeId × Value → H} {w : World} {base : Nat} {spare : Nat → Bool} {held : Bool}
/-- The five fields' cells read as an entry. -/
theorem read_entry {n : Nat} {b p : Nat}
    (h : ∀ (j : Nat) (f : Field), (Try.prog.fieldsOf 30)[j]? = some f → ∃ (v : Value) (y : DataW H × List MemPlace), w.cell? ⟨b, p + j, none⟩ = some v ∧ DataW.trod enc Try.prog w base spare held n f.type [v] = some y) : ∃ x : Entry, EntIn w b p x := by
  unfold Program.fieldsOf at h
  rw [Try.underlying30] at h
  obtain ⟨v0, y0, k0, t0⟩ := h 0 _ rfl
  obtain ⟨v1, y1, k1, t1⟩ := h 1 _ rfl
  obtain ⟨v2, y2, k2, t2⟩ := h 2 _ rfl
  obtain ⟨v3, y3, k3, t3⟩ := h 3 _ rfl
  obtain ⟨v4, y4, k4, t4⟩ := h 4 _ rfl
  obtain ⟨a0, e0, _, _⟩ := DataW.trod_int Try.underlying3 t0
  obtain ⟨a1, e1, _, _⟩ := DataW.trod_int Try.underlying3 t1
  obtain ⟨a2, e2, _, _⟩ := DataW.trod_int Try.underlying3 t2
  obtain ⟨a3, e3, _⟩ := DataW.trod_bool Try.underlying4 t3
  obtain ⟨A, c, l, e4, hs⟩ := read_ints Try.underlying28 Try.underlying3 cells3 t4
  simp only [List.cons.injEq, and_true] at e0 e1 e2 e3
  subst e0 e1 e2 e3 e4
  exact ⟨⟨a0, a1, a2, a3, l⟩, k0, k1, k2, k3, A, c, k4, hs⟩

theorem read_entries {v : Value} {d : DataW H} {ps : List MemPlace} {r : Reach} {b0 : Nat} (hv : Value.okWide Try.prog w r b0 22 v) (h : DataW.Trod enc Try.prog w base spare held 22 v d ps) :
    ∃ (A : Option Addr) (c : Nat) (l : List Entry), v = .slice A l.length c ∧ Ents w A c l := by
  obtain ⟨a0, n0, c0, rfl⟩ := okWide_slice Try.underlying22 hv
  obtain ⟨fuel, hf⟩ := h
  have hone : oneCellFields Try.prog (Try.prog.fieldsOf 30) = true := by kernel_rfl
  have hC : Try.prog.cellsOf 30 = (Try.prog.fieldsOf 30).size := by kernel_rfl
  have hu : Try.prog.underlying 30 = some (.struct (Try.prog.fieldsOf 30)) := by
    unfold Program.fieldsOf
    rw [Try.underlying30]
  rcases open_slice_fields Try.underlying22 hu hone hC (by simpa [Value.cells] using hf) with ⟨hcs, _⟩ | ⟨a, len, cap, m, hcs, hl, hm, hmm, hi⟩
  · simp only [List.cons.injEq, and_true] at hcs
    exact ⟨none, 0, [], hcs, Nat.le_refl _, by omega, fun h => by cases h⟩
  · simp only [List.cons.injEq, and_true] at hcs
    have hlm : len ≤ m := by rw [hmm]; split <;> omega
    have hsz : (Try.prog.fieldsOf 30).size = 5 := by rw [← hC]; exact cells30
    rcases Nat.eq_zero_or_pos len with h0 | h0
    · exact ⟨some a, cap, [], by rw [hcs, h0]; rfl, Nat.zero_le _, by unfold maxLen at hm; omega, fun h => by cases h⟩
    · obtain ⟨n1, h1⟩ := hi 0 (by omega)
      obtain ⟨v1, y1, hc1, _⟩ := h1 0 _ (Array.getElem?_eq_getElem (by rw [hsz]; decide))
      have hadd : a.add (0 * (Try.prog.fieldsOf 30).size + 0) = a := by rw [Nat.zero_mul]; unfold Addr.add; simp
      rw [hadd] at hc1
      obtain ⟨e1, hb1⟩ := plain_of hc1
      obtain ⟨l, hll, hR⟩ := list_of (R := fun i x => EntIn w a.block (a.off + i * 5) x) len (fun i hil => by
        obtain ⟨n2, h2⟩ := hi i (by omega)
        refine read_entry (enc := enc) (base := base) (spare := spare) (held := held) (n := n2) (fun j f hj => ?_)
        obtain ⟨v, y, hc, ht⟩ := h2 j f hj
        refine ⟨v, y, ?_, ht⟩
        rw [e1, addr_add, hsz] at hc
        rw [Nat.add_assoc]
        exact hc)
      exact ⟨some a, cap, l, by rw [hcs, hll], by rw [hll]; exact hl, by unfold maxLen at hm; omega, fun _ => ⟨a.block, a.off, by rw [← e1], hb1, hR⟩⟩
end
end Go.Proofs.Ytjomgaafnpbmhaa.N
