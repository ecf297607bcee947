/- RingSorts: what the list says, in plain Lean. -/
import Derived.Test.YtjomgaafnpbmhaaJ
namespace Go.Proofs.Ytjomgaafnpbmhaa.S
open Go.RowKit
open Go.Proofs.Ytjomgaafnpbmhaa
open Go.Proofs.Ytjomgaafnpbmhaa.A Go.Proofs.Ytjomgaafnpbmhaa.B Go.Proofs.Ytjomgaafnpbmhaa.F Go.Proofs.Ytjomgaafnpbmhaa.G Go.Proofs.Ytjomgaafnpbmhaa.J
set_option linter.unusedVariables false

/-- Is no earlier entry of that key? -/
def Fresh (l : List Entry) (i : Nat) : Prop := ∀ (j : Nat) (x y : Entry), j < i → l[j]? = some y → l[i]? = some x → ¬ y.key = x.key
open Classical in
noncomputable def fl (l : List Entry) : Nat → List Entry
  | 0 => []
  | k + 1 => match l[k]? with
    | none => fl l k
    | some x => if Fresh l k then fl l k ++ [x] else fl l k

theorem fl_yes {l : List Entry} {k : Nat} {x : Entry} (h : l[k]? = some x) (hf : Fresh l k) : fl l (k + 1) = fl l k ++ [x] := by
  simp only [fl, h, if_pos hf]
theorem fl_no {l : List Entry} {k : Nat} {x : Entry} (h : l[k]? = some x) (hf : ¬ Fresh l k) : fl l (k + 1) = fl l k := by
  simp only [fl, h, if_neg hf]
theorem fl_len (l : List Entry) : ∀ k, (fl l k).length ≤ k
  | 0 => by simp [fl]
  | k + 1 => by
    have := fl_len l k
    cases h : l[k]? with
    | none => simp only [fl, h]; omega
    | some x =>
      by_cases hf : Fresh l k
      · rw [fl_yes h hf]; simp; omega
      · rw [fl_no h hf]; omega
theorem fl_mem {l : List Entry} {y : Entry} : ∀ {k : Nat}, y ∈ fl l k → ∃ j, j < k ∧ l[j]? = some y ∧ Fresh l j
  | 0, h => by simp [fl] at h
  | k + 1, h => by
    have up : (∃ j, j < k ∧ l[j]? = some y ∧ Fresh l j) → ∃ j, j < k + 1 ∧ l[j]? = some y ∧ Fresh l j := fun ⟨j, h1, h2⟩ => ⟨j, by omega, h2⟩
    cases hx : l[k]? with
    | none => simp only [fl, hx] at h; exact up (fl_mem h)
    | some x =>
      by_cases hf : Fresh l k
      · rw [fl_yes hx hf] at h
        simp only [List.mem_append, List.mem_singleton] at h
        rcases h with h | h
        · exact up (fl_mem h)
        · subst h; exact ⟨k, by omega, hx, hf⟩
      · rw [fl_no hx hf] at h; exact up (fl_mem h)
theorem fl_has {l : List Entry} : ∀ {k j : Nat} {y : Entry}, j < k → l[j]? = some y → ∃ z, z ∈ fl l k ∧ z.key = y.key
  | 0, _, _, h, _ => by omega
  | k + 1, j, y, h, hy => by
    have up : ∀ x, l[k]? = some x → (∃ z, z ∈ fl l k ∧ z.key = y.key) → ∃ z, z ∈ fl l (k + 1) ∧ z.key = y.key := by
      rintro x hx ⟨z, h1, h2⟩
      by_cases hf : Fresh l k
      · rw [fl_yes hx hf]; exact ⟨z, List.mem_append_left _ h1, h2⟩
      · rw [fl_no hx hf]; exact ⟨z, h1, h2⟩
    obtain ⟨x, hx⟩ : ∃ x, l[k]? = some x ∨ l[k]? = none := by
      cases h : l[k]? with
      | none => exact ⟨y, .inr rfl⟩
      | some x => exact ⟨x, .inl rfl⟩
    by_cases hjk : j = k
    · subst hjk
      by_cases hf : Fresh l j
      · rw [fl_yes hy hf]; exact ⟨y, by simp, rfl⟩
      · have hf' := hf
        unfold Fresh at hf
        simp only [Classical.not_forall, Classical.not_not] at hf
        obtain ⟨i, x2, z, hij, hz, hx2, he⟩ := hf
        rw [hy] at hx2
        cases hx2
        obtain ⟨z', h1, h2⟩ := fl_has (k := j) hij hz
        exact up y hy ⟨z', h1, h2.trans he⟩
    · rcases hx with hx | hx
      · exact up x hx (fl_has (by omega) hy)
      · obtain ⟨z, h1, h2⟩ := fl_has (k := k) (by omega) hy
        exact ⟨z, by simp only [fl, hx]; exact h1, h2⟩
theorem fresh_iff {l : List Entry} {i : Nat} {x : Entry} (h : l[i]? = some x) : Fresh l i ↔ ∀ z, z ∈ fl l i → ¬ z.key = x.key := by
  constructor
  · intro hf z hz he
    obtain ⟨j, h1, h2, _⟩ := fl_mem hz
    exact hf j x z h1 h2 h he
  · intro hf j x' y hj hy hx' he
    rw [h] at hx'
    cases hx'
    obtain ⟨z, h1, h2⟩ := fl_has (k := i) hj hy
    exact hf z h1 (h2.trans he)

/-- Where Insert finds the key. -/
theorem found_iff {m : List Entry} (hs : Sorted m) (k : Key) : (m[pos m k]?).map Entry.key = some k ↔ ∃ y, y ∈ m ∧ y.key = k := by
  constructor
  · intro h
    cases hy : m[pos m k]? with
    | none => rw [hy] at h; cases h
    | some y =>
      rw [hy] at h
      simp only [Option.map_some, Option.some.injEq] at h
      exact ⟨y, List.mem_of_getElem? hy, h⟩
  · rintro ⟨y, hy, rfl⟩
    obtain ⟨i, hi⟩ := List.mem_iff_getElem?.1 hy
    have ht := turns_key hs y.key
    have h1 : pos m y.key ≤ i := by
      rcases Nat.lt_or_ge i (pos m y.key) with h | h
      · have := cnt_lt (q := fun z => z.key.lt y.key) hi h
        simp only [lt_irrefl] at this
        cases this
      · exact h
    rcases Nat.lt_or_eq_of_le h1 with h2 | h2
    · have hil := (List.getElem?_eq_some_iff.1 hi).1
      have hz : m[pos m y.key]? = some (m[pos m y.key]'(by omega)) := List.getElem?_eq_getElem (by omega)
      have h3 := hs _ _ _ _ h2 hz hi
      have h4 := cnt_at (q := fun z => z.key.lt y.key) hz
      simp only [h3] at h4
      cases h4
    · rw [h2, hi]; rfl

def gt (k : Key) (y : Entry) : Bool := k.lt y.key
theorem moved {m : List Entry} (hs : Sorted m) {k : Key} (h : ∀ y, y ∈ m → ¬ y.key = k) : m.countP (gt k) = m.length - pos m k := by
  have hp : pos m k ≤ m.length := cnt_le _ _
  have ht := turns_key hs k
  have h1 : (m.take (pos m k)).countP (gt k) = 0 := by
    rw [List.countP_eq_zero]
    intro y hy
    obtain ⟨i, hi⟩ := List.mem_iff_getElem?.1 hy
    have hil := (List.getElem?_eq_some_iff.1 hi).1
    simp only [List.length_take] at hil
    rw [List.getElem?_take_of_lt (by omega)] at hi
    have h2 := cnt_lt (q := fun z => z.key.lt k) hi (by show i < pos m k; omega)
    unfold gt
    intro h3
    have := lt_trans h2 h3
    rw [lt_irrefl] at this
    cases this
  have h2 : (m.drop (pos m k)).countP (gt k) = (m.drop (pos m k)).length := by
    rw [List.countP_eq_length]
    intro y hy
    obtain ⟨i, hi⟩ := List.mem_iff_getElem?.1 hy
    rw [List.getElem?_drop] at hi
    have h3 := cnt_ge ht hi (by show pos m k ≤ _; omega)
    rcases lt_total h3 with h4 | h4
    · exact absurd h4 (h y (List.mem_of_getElem? hi))
    · exact h4
  have h3 : m.countP (gt k) = (m.take (pos m k)).countP (gt k) + (m.drop (pos m k)).countP (gt k) := by
    rw [← List.countP_append, List.take_append_drop]
  rw [h3, h1, h2, List.length_drop]
  omega

/-- What the ring holds behind k turns. -/
structure Held (l : List Entry) (k : Nat) (m : List Entry) : Prop where
  sorted : Sorted m
  perm : m.Perm (fl l k)

theorem held_nil (l : List Entry) : Held l 0 [] := ⟨sorted_nil, List.Perm.nil⟩
theorem held_len {l : List Entry} {k : Nat} {m : List Entry} (h : Held l k m) : m.length ≤ k := by rw [h.perm.length_eq]; exact fl_len l k
/-- A fresh one is inserted behind those that are less. -/
theorem ins_yes {l : List Entry} {k : Nat} {m : List Entry} {x : Entry} (h : Held l k m) (hx : l[k]? = some x) (hf : Fresh l k) (hk : k < 40) :
    insert_ 40 m x = (((m.length - (fl l k).countP (gt x.key) : Nat) : Int), (((fl l k).countP (gt x.key) : Nat) : Int), 0, m.take (pos m x.key) ++ x :: m.drop (pos m x.key)) ∧ Held l (k + 1) (m.take (pos m x.key) ++ x :: m.drop (pos m x.key)) ∧ (fl l k).countP (gt x.key) ≤ m.length := by
  have hlen := held_len h
  have hno : ∀ y, y ∈ m → ¬ y.key = x.key := fun y hy => (fresh_iff hx).1 hf y (h.perm.mem_iff.1 hy)
  have hn : ¬ (m[pos m x.key]?).map Entry.key = some x.key := fun e => by
    obtain ⟨y, hy, he⟩ := (found_iff h.sorted x.key).1 e
    exact hno y hy he
  have hc : (fl l k).countP (gt x.key) = m.length - pos m x.key := by rw [← h.perm.countP_eq, moved h.sorted hno]
  have hp : pos m x.key ≤ m.length := cnt_le _ _
  have hi : insert_ 40 m x = (((m.length - (fl l k).countP (gt x.key) : Nat) : Int), (((fl l k).countP (gt x.key) : Nat) : Int), 0, m.take (pos m x.key) ++ x :: m.drop (pos m x.key)) := by
    unfold insert_
    rw [if_neg hn, if_neg (by omega), hc]
    have e1 : (m.length - (m.length - pos m x.key)) = pos m x.key := by omega
    rw [e1]
    congr 2
    omega
  refine ⟨hi, ⟨?_, ?_⟩, by omega⟩
  · have := sorted_insert (K := 40) (x := x) h.sorted
    rw [hi] at this
    exact this
  · rw [fl_yes hx hf]
    refine List.perm_middle.trans ?_
    rw [List.take_append_drop]
    exact (List.Perm.cons x h.perm).trans (List.perm_append_singleton x _).symm
theorem ins_no {l : List Entry} {k : Nat} {m : List Entry} {x : Entry} (h : Held l k m) (hx : l[k]? = some x) (hf : ¬ Fresh l k) :
    insert_ 40 m x = (0, 0, 7, m) ∧ Held l (k + 1) m := by
  have hy : (m[pos m x.key]?).map Entry.key = some x.key := by
    rw [found_iff h.sorted]
    rw [fresh_iff hx] at hf
    simp only [Classical.not_forall, Classical.not_not] at hf
    obtain ⟨z, hz, he⟩ := hf
    exact ⟨z, h.perm.mem_iff.2 hz, he⟩
  refine ⟨by unfold insert_; rw [if_pos hy], h.sorted, ?_⟩
  rw [fl_no hx hf]
  exact h.perm
theorem count_yes {l : List Entry} {k : Nat} {y : Entry} {q : Entry → Bool} (hy : l[k]? = some y) (hf : Fresh l k) : (fl l (k + 1)).countP q = (fl l k).countP q + if q y then 1 else 0 := by
  rw [fl_yes hy hf, List.countP_append, List.countP_singleton]
theorem count_no {l : List Entry} {k : Nat} {y : Entry} {q : Entry → Bool} (hy : l[k]? = some y) (hf : ¬ Fresh l k) : (fl l (k + 1)).countP q = (fl l k).countP q := by
  rw [fl_no hy hf]
end Go.Proofs.Ytjomgaafnpbmhaa.S
