/- How keys, and slices of keys, read. -/
import Derived.Test.YtedpkficechjnaaKI
import Derived.Test.YtedpkficechjnaaL
namespace Go.Proofs.Ytedpkficechjnaa.KV
open Go.RowKit Go.WideShapes Go.ChangeShapes Go.Deep Go.ChangeAt Go.Joins
open Go.Proofs.Ytedpkficechjnaa
open Go.Proofs.Ytedpkficechjnaa.KA Go.Proofs.Ytedpkficechjnaa.K Go.Proofs.Ytedpkficechjnaa.KB Go.Proofs.Ytedpkficechjnaa.KI Go.Proofs.Ytedpkficechjnaa.L
set_option linter.unusedVariables false
set_option linter.unusedSimpArgs false

section
variable {H : Type} {enc : TypeId × Value → H} {P : Program} {w : World} {base : Nat} {spare : Nat → Bool} {held : Bool}
theorem read_struct {r : Reach} {b0 : Nat} {t : TypeId} {fs : Array Field} {v : Value} {d : DataW H} {p : List MemPlace} (hs : P.underlying t = some (.struct fs)) (hone : oneCellFields P fs = true) (hC : P.cellsOf t = fs.size)
    (hv : Value.okWide P w r b0 t v) (h : DataW.Trod enc P w base spare held t v d p) :
    ∃ (l : List Value) (n : Nat), v = .agg l.toArray ∧ l.length = fs.size ∧ ∀ (j : Nat) (f : Field), fs[j]? = some f → ∃ (u : Value) (y : DataW H × List MemPlace), l[j]? = some u ∧ DataW.trod enc P w base spare held n f.type [u] = some y := by
  obtain ⟨cs, rfl, hsz⟩ := okWide_struct hs hv
  obtain ⟨fuel, hf⟩ := h
  obtain ⟨xs, n, _, hx, _, hlen, hg⟩ := DataW.trod_struct hs hf
  refine ⟨cs.toList, n, by simp, by simpa using hsz.trans hC, fun j f hj => ?_⟩
  obtain ⟨o, k⟩ := hone_of hone j f hj
  have hjl : j < fs.size := (Array.getElem?_eq_some_iff.1 hj).1
  have hjc : j < cs.toList.length := by have := hsz.trans hC; simp; omega
  have h1 := hg j f hj
  rw [o, k] at h1
  have h2 : ((Value.agg cs).cells.toList.drop j).take 1 = [cs.toList[j]] := by
    rw [show (Value.agg cs).cells.toList = cs.toList from rfl, List.drop_eq_getElem_cons hjc]
    rfl
  rw [h2] at h1
  have hys : xs[j]? = some (xs[j]'(by omega)) := List.getElem?_eq_getElem (by omega)
  exact ⟨_, _, List.getElem?_eq_getElem hjc, h1.trans hys⟩
end

theorem cellsInt : Try.prog.cellsOf 3 = 1 := by kernel_rfl
theorem cellsKey : Try.prog.cellsOf 28 = 3 := by kernel_rfl
theorem keyFields : Try.prog.underlying 28 = some (.struct (Try.prog.fieldsOf 28)) := fields57
section
variable {H : Type} {enc : TypeId × Value → H} {w : World} {base : Nat} {spare : Nat → Bool} {held : Bool}
theorem int_field {l : List Value} {n j : Nat} {fs : Array Field} {f : Field} (h : ∀ (j : Nat) (f : Field), fs[j]? = some f → ∃ (u : Value) (y : DataW H × List MemPlace), l[j]? = some u ∧ DataW.trod enc Try.prog w base spare held n f.type [u] = some y) (hj : fs[j]? = some f) (hf : f.type = 3) :
    ∃ a : Int, l[j]? = some (.int .i64 a) := by
  obtain ⟨u, y, hu, ht⟩ := h j f hj
  rw [hf] at ht
  obtain ⟨a, e, _, _⟩ := DataW.trod_int Try.underlying3 ht
  simp only [List.cons.injEq, and_true] at e
  exact ⟨a, by rw [hu, e]⟩
theorem three {l : List Value} {a b c : Value} (hl : l.length = 3) (h0 : l[0]? = some a) (h1 : l[1]? = some b) (h2 : l[2]? = some c) : l = [a, b, c] := by
  match l, hl with
  | [x, y, z], _ => simp at h0 h1 h2; simp [h0, h1, h2]
theorem read_key {v : Value} {d : DataW H} {ps : List MemPlace} {r : Reach} {b0 : Nat} (hv : Value.okWide Try.prog w r b0 28 v) (h : DataW.Trod enc Try.prog w base spare held 28 v d ps) : ∃ k : Key, v = k.val := by
  have hone : oneCellFields Try.prog (Try.prog.fieldsOf 28) = true := by kernel_rfl
  have hC : Try.prog.cellsOf 28 = (Try.prog.fieldsOf 28).size := by kernel_rfl
  obtain ⟨l, n, rfl, hl, hf⟩ := read_struct keyFields hone hC hv h
  rw [← hC, cellsKey] at hl
  have hfs : Try.prog.fieldsOf 28 = match Try.prog.underlying 28 with | some (.struct fs) => fs | _ => #[] := rfl
  rw [Try.underlying28] at hfs
  rw [hfs] at hf
  obtain ⟨a, ha⟩ := int_field hf (j := 0) rfl rfl
  obtain ⟨b, hb⟩ := int_field hf (j := 1) rfl rfl
  obtain ⟨c, hc⟩ := int_field hf (j := 2) rfl rfl
  exact ⟨⟨a, b, c⟩, by rw [three hl ha hb hc]; rfl⟩

theorem keyCells_split {l : List Key} : ∀ {j : Nat} {u : Value}, (keyCells l)[j]? = some u → ∃ (k : Key), l[j / 3]? = some k ∧ (kcells k)[j % 3]? = some u := by
  induction l with
  | nil => intro j u h; simp [keyCells] at h
  | cons x l ih =>
    intro j u h
    simp only [keyCells, List.flatMap_cons] at h
    have h3 : (kcells x).length = 3 := rfl
    by_cases hj : j < 3
    · rw [List.getElem?_append_left (by omega)] at h
      exact ⟨x, by rw [show j / 3 = 0 by omega]; rfl, by rw [show j % 3 = j by omega]; exact h⟩
    · rw [List.getElem?_append_right (by omega), h3] at h
      obtain ⟨k, h1, h2⟩ := ih h
      refine ⟨k, ?_, ?_⟩
      · rw [show j / 3 = (j - 3) / 3 + 1 by omega]
        simpa using h1
      · rw [show j % 3 = (j - 3) % 3 by omega]
        exact h2
theorem read_keys {fuel : Nat} {v : Value} {x : DataW H × List MemPlace} (h : DataW.trod enc Try.prog w base spare held fuel 24 [v] = some x) :
    ∃ (A : Option Addr) (c : Nat) (l : List Key), v = .slice A l.length c ∧ Sl w 3 A l.length c (keyCells l) := by
  have hone : oneCellFields Try.prog (Try.prog.fieldsOf 28) = true := by kernel_rfl
  have hC : Try.prog.cellsOf 28 = (Try.prog.fieldsOf 28).size := by kernel_rfl
  rcases open_slice_fields Try.underlying24 keyFields hone hC h with ⟨hcs, _⟩ | ⟨a, len, cap, m, hcs, hl, hm, hmm, hi⟩
  · simp only [List.cons.injEq, and_true] at hcs
    exact ⟨none, 0, [], hcs, Sl.nil w 3⟩
  · simp only [List.cons.injEq, and_true] at hcs
    have hlm : len ≤ m := by rw [hmm]; split <;> omega
    have hsz : (Try.prog.fieldsOf 28).size = 3 := by rw [← hC]; exact cellsKey
    have hmx : cap ≤ 9223372036854775807 := by unfold maxLen at hm; omega
    rcases Nat.eq_zero_or_pos len with h0 | h0
    · subst h0
      exact ⟨some a, cap, [], by rw [hcs]; rfl, Sl.empty w 3 _ _ hmx⟩
    · obtain ⟨n1, h1⟩ := hi 0 (by omega)
      obtain ⟨v1, y1, hc1, _⟩ := h1 0 _ (Array.getElem?_eq_getElem (by rw [hsz]; decide))
      have hadd : a.add (0 * (Try.prog.fieldsOf 28).size + 0) = a := by rw [Nat.zero_mul]; unfold Addr.add; simp
      rw [hadd] at hc1
      obtain ⟨e1, hb1⟩ := plain_of hc1
      obtain ⟨l, hll, hR⟩ := list_of (R := fun i k => ∀ (j : Nat) u, (kcells k)[j]? = some u → w.cell? ⟨a.block, a.off + (i * 3 + j), none⟩ = some u) len (fun i hil => by
        obtain ⟨n2, h2⟩ := hi i (by omega)
        rw [hsz, e1] at h2
        have hfs : Try.prog.fieldsOf 28 = match Try.prog.underlying 28 with | some (.struct fs) => fs | _ => #[] := rfl
        rw [Try.underlying28] at hfs
        rw [hfs] at h2
        obtain ⟨u0, z0, d0, t0⟩ := h2 0 _ rfl
        obtain ⟨u1, z1, d1, t1⟩ := h2 1 _ rfl
        obtain ⟨u2, z2, d2, t2⟩ := h2 2 _ rfl
        obtain ⟨b0, e0, _, _⟩ := DataW.trod_int Try.underlying3 t0
        obtain ⟨b1, e1', _, _⟩ := DataW.trod_int Try.underlying3 t1
        obtain ⟨b2, e2, _, _⟩ := DataW.trod_int Try.underlying3 t2
        simp only [List.cons.injEq, and_true] at e0 e1' e2
        subst e0 e1' e2
        rw [addr_add] at d0 d1 d2
        refine ⟨⟨b0, b1, b2⟩, fun j u hu => ?_⟩
        match j, hu with
        | 0, hu => simp [kcells] at hu; subst hu; exact d0
        | 1, hu => simp [kcells] at hu; subst hu; exact d1
        | 2, hu => simp [kcells] at hu; subst hu; exact d2
        | j + 3, hu => simp [kcells] at hu)
      refine ⟨some a, cap, l, by rw [hcs, hll], by rw [keyCells_len], by rw [hll]; exact hl, hmx, fun _ => ⟨a.block, a.off, by rw [← e1], hb1, fun j u hu => ?_⟩⟩
      obtain ⟨k, hk1, hk2⟩ := keyCells_split hu
      have := hR _ k hk1 _ _ hk2
      rw [show j / 3 * 3 + j % 3 = j by omega] at this
      exact this
end
end Go.Proofs.Ytedpkficechjnaa.KV
