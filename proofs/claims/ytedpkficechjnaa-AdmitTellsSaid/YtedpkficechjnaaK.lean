/- Slices that read as lists of cells; rows of the call's own; append of any slice onto a row of the call's own. -/
import Derived.Test.YtedpkficechjnaaE
import Derived.Laws.AppendOwnNone
import Derived.OwnWalk
import Derived.WalkKit
namespace Go.Proofs.Ytedpkficechjnaa.K
open Go.RowKit
open Go.Proofs.Ytedpkficechjnaa
set_option linter.unusedVariables false
set_option linter.unusedSimpArgs false

theorem addr_add (b o j : Nat) : (⟨b, o, none⟩ : Addr).add j = ⟨b, o + j, none⟩ := by
  unfold Addr.add
  split
  · rename_i h; subst h; rfl
  · rfl

/-- n elements of 'size' cells each at A, of capacity c, that read as the cells xs. -/
structure Sl (w : World) (size : Nat) (A : Option Addr) (n c : Nat) (xs : List Value) : Prop where
  len : xs.length = n * size
  cap : n ≤ c
  max : c ≤ 9223372036854775807
  cells : xs ≠ [] → ∃ b o, A = some ⟨b, o, none⟩ ∧ b < w.heap.size ∧ ∀ j u, xs[j]? = some u → w.cell? ⟨b, o + j, none⟩ = some u

section
variable {w w' : World} {size n c : Nat} {A : Option Addr} {xs : List Value}
theorem Sl.ext (h : Sl w size A n c xs) (hx : E.Ext w w') : Sl w' size A n c xs :=
  ⟨h.len, h.cap, h.max, fun hn => by
    obtain ⟨b, o, e, hb, hc⟩ := h.cells hn
    exact ⟨b, o, e, Nat.lt_of_lt_of_le hb hx.size, fun j u hu => (hx.cell (p := ⟨b, o + j, none⟩) hb).trans (hc j u hu)⟩⟩
theorem Sl.below {B : Nat} (h : Sl w size A n c xs) (hB : w.heap.size ≤ B) (hx : Below B w w') : Sl w' size A n c xs :=
  ⟨h.len, h.cap, h.max, fun hn => by
    obtain ⟨b, o, e, hb, hc⟩ := h.cells hn
    exact ⟨b, o, e, Nat.lt_of_lt_of_le hb hx.size, fun j u hu => (hx.cell (p := ⟨b, o + j, none⟩) (by show b < B; omega)).trans (hc j u hu)⟩⟩
theorem Sl.nil (w : World) (size : Nat) : Sl w size none 0 0 [] := ⟨by simp, Nat.le_refl _, by omega, fun h => absurd rfl h⟩
theorem Sl.empty (w : World) (size : Nat) (A : Option Addr) (c : Nat) (hc : c ≤ 9223372036854775807) : Sl w size A 0 c [] := ⟨by simp, Nat.zero_le _, hc, fun h => absurd rfl h⟩
/-- A block that is known whole, as a slice. -/
theorem Sl.blk {g t : Nat} {cs : Array Value} (h : E.Blk w g t cs) (hs : cs.size = n * size) (hc : n ≤ c) (hm : c ≤ 9223372036854775807) : Sl w size (some ⟨g, 0, none⟩) n c cs.toList :=
  ⟨by simpa using hs, hc, hm, fun _ => ⟨g, 0, rfl, h.lt, fun j u hu => by rw [h.cell, Nat.zero_add]; simpa using hu⟩⟩
/-- The cell at j. -/
theorem Sl.at_ (h : Sl w size A n c xs) {j : Nat} (hj : j < xs.length) : ∃ b o, A = some ⟨b, o, none⟩ ∧ b < w.heap.size ∧ ∀ i (hi : i < xs.length), w.cell? ⟨b, o + i, none⟩ = some xs[i] := by
  obtain ⟨b, o, e, hb, hc⟩ := h.cells (by intro e; rw [e] at hj; simp at hj)
  exact ⟨b, o, e, hb, fun i hi => hc i _ (List.getElem?_eq_getElem hi)⟩
/-- A cut. -/
theorem Sl.cut (h : Sl w size A n c xs) (hsz : 0 < size) {k m c' : Nat} (hk : k ≤ m) (hm : m ≤ n) (hc : m ≤ c') (hc' : c' ≤ c) :
    Sl w size (if c' = k then A else A.map (·.add (k * size))) (m - k) (c' - k) ((xs.take (m * size)).drop (k * size)) := by
  have hl := h.len
  have hms : m * size ≤ n * size := Nat.mul_le_mul_right _ hm
  refine ⟨by rw [List.length_drop, List.length_take, hl, Nat.min_eq_left hms, Nat.sub_mul], by omega, by have := h.max; omega, fun hn => ?_⟩
  have hne : k < m := by
    rcases Nat.lt_or_ge k m with h1 | h1
    · exact h1
    · exfalso
      apply hn
      apply List.eq_nil_of_length_eq_zero
      rw [List.length_drop, List.length_take, hl, Nat.min_eq_left hms]
      have : m = k := by omega
      rw [this]; omega
  obtain ⟨b, o, rfl, hb, hcell⟩ := h.cells (by
    intro e
    rw [e] at hl
    have : 0 < n * size := Nat.mul_pos (by omega) hsz
    simp only [List.length_nil] at hl
    omega)
  rw [if_neg (by omega)]
  refine ⟨b, o + k * size, by simp [addr_add], hb, fun j u hu => ?_⟩
  rw [Nat.add_assoc]
  apply hcell
  rw [List.getElem?_drop, List.getElem?_take] at hu
  split at hu
  · exact hu
  · cases hu
theorem own_sl {base : Nat} {e : TypeId} {v : Value} (h : w.ownsRow base e size v n xs) : ∃ A c, v = .slice A n c ∧ Sl w size A n c xs := by
  rcases h.2 with ⟨rfl, rfl⟩ | ⟨g, cap, cur, rfl, hb, hg, hn, hc, hs, ht⟩
  · refine ⟨none, 0, rfl, ⟨h.1, Nat.le_refl _, by omega, fun hne => absurd ?_ hne⟩⟩
    exact List.eq_nil_of_length_eq_zero (by simpa using h.1)
  · have hm : cap ≤ 9223372036854775807 := by unfold maxLen at hc; omega
    refine ⟨_, cap, rfl, ⟨h.1, hn, hm, fun _ => ⟨g, 0, rfl, (Array.getElem?_eq_some_iff.1 hg).1, fun j u hu => ?_⟩⟩⟩
    have := h.cells (g := g) rfl j u hu
    rwa [addr_add] at this
theorem own_mono {base base' : Nat} {e : TypeId} {v : Value} (h : w.ownsRow base e size v n xs) (hb : base' ≤ base) : w.ownsRow base' e size v n xs := by
  obtain ⟨h1, h2⟩ := h
  refine ⟨h1, ?_⟩
  rcases h2 with h2 | ⟨g, cap, cur, h3, h4, r⟩
  · exact .inl h2
  · exact .inr ⟨g, cap, cur, h3, Nat.le_trans hb h4, r⟩
theorem own_ext {base : Nat} {e : TypeId} {v : Value} (h : w.ownsRow base e size v n xs) (hx : E.Ext w w') : w'.ownsRow base e size v n xs :=
  h.kept (row := none) ⟨hx.os, hx.tape, hx.output, hx.size, fun k hk _ => hx.block k hk⟩ (by cases v.ownBlock <;> simp)
theorem own_extS {S : Nat → Prop} {base : Nat} {e : TypeId} {v : Value} (h : w.ownsRow base e size v n xs) (hx : E.ExtS S w w') (hS : ∀ g cs, E.Blk w g e cs → ¬ S g) : w'.ownsRow base e size v n xs := by
  refine ⟨h.1, ?_⟩
  rcases h.2 with hn | ⟨g, cap, cur, rfl, hb, hgg, rest⟩
  · exact .inl hn
  · exact .inr ⟨g, cap, cur, rfl, hb, (hx.block g (Array.getElem?_eq_some_iff.1 hgg).1 (hS g cur hgg)).trans hgg, rest⟩
theorem own_set {base : Nat} {e : TypeId} {v : Value} (h : w.ownsRow base e size v n xs) {p : Addr} (hp : p.block < base) (u : Value) : (w.setCell p u).ownsRow base e size v n xs := ownsRow_setCell_below h hp u
end

/-- A slice's type: its number, its element's, how many cells and bytes one has. -/
def ST (P : Program) (t e size bytes : Nat) : Prop :=
  ∃ (i : TypeInfo) (z : Value), P.underlying t = some (.slice e) ∧ P.info? e = some i ∧ i.zero = some z ∧ i.size = size ∧ i.bytes = bytes ∧ z.cells.size = size ∧ 0 < size

/-- .. whose element has one cell, and is z where nobody wrote. -/
def ST1 (P : Program) (t e bytes : Nat) (z : Value) : Prop :=
  ∃ i : TypeInfo, P.underlying t = some (.slice e) ∧ P.info? e = some i ∧ i.zero = some z ∧ i.size = 1 ∧ i.bytes = bytes ∧ z.cells = #[z]
theorem run_make1 {P : Program} {t e bytes : Nat} {z : Value} (st : ST1 P t e bytes z) (n : Nat) (hb : bytes ≤ 128) (hn : n ≤ 1099511627776) (w : World) :
    (Instr.makeSlice t (.int .i64 (n : Int)) (.int .i64 (n : Int))).run P w = .ok (.slice (some ⟨w.heap.size, 0, none⟩) n n) (w.alloc (.cells (madeCells #[z] n) e)) := by
  obtain ⟨i, ht, hi, hz, hs, hby, hc⟩ := st
  have hbb : (i.bytes : Int) * (n : Int) ≤ 281474976710656 := by
    rw [hby]
    have : bytes * n ≤ 128 * 1099511627776 := Nat.mul_le_mul hb hn
    have h2 : ((bytes * n : Nat) : Int) ≤ 140737488355328 := by omega
    rw [Int.natCast_mul] at h2
    omega
  have hr := run_make (P := P) w t e i z ht hi hz .i64 .i64 n n (by omega) (Int.le_refl _) hbb (by omega)
  simp only [Int.toNat_natCast, hs, Nat.mul_one, hc] at hr
  exact hr

theorem own_below {w w' : World} {base : Nat} {e : TypeId} {size n : Nat} {v : Value} {xs : List Value} (h : w.ownsRow base e size v n xs) (hb : base ≤ w.heap.size) (hg : w.grownBy w' v.ownBlock) : Below base w w' :=
  ⟨hg.os, hg.tape, hg.output, hg.size, fun k hk => hg.block k (by omega) (fun e => by have := (h.lt k e.symm).1; omega)⟩

section
variable {P : Program} {w : World} {t e size bytes : Nat}
theorem run_append_sl (st : ST P t e size bytes) (ty : TypeId) (base : Nat) (v : Value) (n : Nat) (xs : List Value) (hown : w.ownsRow base e size v n xs)
    (A : Option Addr) (m c : Nat) (news : List Value) (hsl : Sl w size A m c news) (h1 : ∀ u ∈ news, u.oneCell' = true)
    (hlen : n + m ≤ 1099511627776) (hbytes : bytes ≤ 128) (hbase : base ≤ w.heap.size) :
    ∃ v' w', (Builtin.append_ #[t, t] ty #[v, .slice A m c]).run P w = .ok v' w' ∧ w'.ownsRow base e size v' (n + m) (xs ++ news) ∧ w.grownBy w' v.ownBlock := by
  obtain ⟨i, z, ht, hi, hz, hsize, hby, hzs, hsz⟩ := st
  have hb : (n + m) * bytes ≤ 140737488355328 := Nat.le_trans (Nat.mul_le_mul hlen hbytes) (by decide)
  have hm' : n + m ≤ maxLen := by unfold maxLen; omega
  by_cases hne : news = []
  · have hm0 : m = 0 := by
      have := hsl.len
      rw [hne] at this
      rcases Nat.eq_zero_or_pos m with h0 | h0
      · exact h0
      · have := Nat.mul_pos h0 hsz
        simp only [List.length_nil] at *
        omega
    subst hm0
    cases A with
    | none =>
      have hr := run_append_owned_none (P := P) (w := w) base t ty e i size ht hi v n xs hown
      refine ⟨v, w, ?_, by rw [hne]; simpa using hown, ⟨rfl, rfl, rfl, Nat.le_refl _, fun _ _ _ => rfl⟩⟩
      have hz0 : c = 0 ∨ c ≠ 0 := by omega
      revert hr
      simp only [Builtin.append_]
      rcases hown.2 with ⟨rfl, _⟩ | ⟨g, cap, cur, rfl, _, hg, hnc, _⟩
      · intro _
        rcases hown.2 with ⟨_, rfl⟩ | ⟨g, cap, cur, h, _⟩
        · simp [run_underlying ht, sizeOf, typeInfo, hi, Builtin.lenOf, Builtin.firstCells]
        · cases h
      · intro _
        simp [run_underlying ht, sizeOf, typeInfo, hi, Builtin.lenOf, Builtin.firstCells, hnc, storeCells]
    | some ad =>
      obtain ⟨v', w', hr, h2, h3, _⟩ := run_append_own (P := P) w base t ty e i z size bytes ht hi hz hsize hby hzs hsz v n xs hown ad 0 c news (by rw [hne]; simp) (by rw [hne]; intro j u h; cases h) h1 hm' hb hbase
      exact ⟨v', w', hr, h2, h3⟩
  · obtain ⟨b, o, rfl, hbl, hcell⟩ := hsl.cells hne
    obtain ⟨v', w', hr, h2, h3, _⟩ := run_append_own (P := P) w base t ty e i z size bytes ht hi hz hsize hby hzs hsz v n xs hown ⟨b, o, none⟩ m c news hsl.len (by intro j u h; rw [addr_add]; exact hcell j u h) h1 hm' hb hbase
    exact ⟨v', w', hr, h2, h3⟩

theorem wp_append_sl (st : ST P t e size bytes) {o : Oper} {a : Act} {K : Act → World → Prop} {Q : Exit → Act → World → Prop} (s x : Operand)
    (ho : o.op = .call { callee := .builtin .append, args := #[s, x], argTypes := #[t, t] })
    (base : Nat) (v : Value) (n : Nat) (xs : List Value) (hs : a.eval s = v) (hown : w.ownsRow base e size v n xs)
    (A : Option Addr) (m c : Nat) (news : List Value) (hx : a.eval x = .slice A m c) (hsl : Sl w size A m c news) (h1 : ∀ u ∈ news, u.oneCell' = true)
    (hlen : n + m ≤ 1099511627776) (hbytes : bytes ≤ 128) (hbase : base ≤ w.heap.size)
    (h : ∀ v' w', w'.ownsRow base e size v' (n + m) (xs ++ news) → Below base w w' → w.grownBy w' v.ownBlock → K (a.put o.dst v') w') : o.wp P a w K Q := by
  obtain ⟨v', w', hr, h2, h3⟩ := run_append_sl (P := P) st o.type base v n xs hown A m c news hsl h1 hlen hbytes hbase
  unfold Oper.wp execOp
  simp only [ho, resolve, invoke, builtin, Sem.run_bind, Sem.run_pure, Result.andThen_ok, List.map_toArray, List.map_cons, List.map_nil, hs, hx, hr]
  exact h v' w' h2 (own_below hown hbase h3) h3

theorem wpList_append_sl (st : ST P t e size bytes) {ops : Array Oper} {rest : List Oper} {o : Oper} {a : Act} {Q : Exit → Act → World → Prop} (hgd : o.guard = none) (s x : Operand)
    (ho : o.op = .call { callee := .builtin .append, args := #[s, x], argTypes := #[t, t] })
    (base : Nat) (v : Value) (n : Nat) (xs : List Value) (hs : a.eval s = v) (hown : w.ownsRow base e size v n xs)
    (A : Option Addr) (m c : Nat) (news : List Value) (hx : a.eval x = .slice A m c) (hsl : Sl w size A m c news) (h1 : ∀ u ∈ news, u.oneCell' = true)
    (hlen : n + m ≤ 1099511627776) (hbytes : bytes ≤ 128) (hbase : base ≤ w.heap.size)
    (h : ∀ v' w', w'.ownsRow base e size v' (n + m) (xs ++ news) → Below base w w' → w.grownBy w' v.ownBlock → wpList P ops Q rest (a.put o.dst v') w') : wpList P ops Q (o :: rest) a w :=
  wpList_plain hgd fun _ hK => wp_append_sl st s x ho base v n xs hs hown A m c news hx hsl h1 hlen hbytes hbase fun v' w' h2 h3 h4 => hK _ _ (h v' w' h2 h3 h4)
end
end Go.Proofs.Ytedpkficechjnaa.K
