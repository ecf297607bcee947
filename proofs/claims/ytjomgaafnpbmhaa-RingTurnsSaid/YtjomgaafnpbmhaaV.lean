/- The document's ring: own. -/
import Derived.Test.YtjomgaafnpbmhaaR
namespace Go.Proofs.Ytjomgaafnpbmhaa.V
open Go.RowKit
open Go.Proofs.Ytjomgaafnpbmhaa
open Go.Proofs.Ytjomgaafnpbmhaa.A Go.Proofs.Ytjomgaafnpbmhaa.K Go.Proofs.Ytjomgaafnpbmhaa.B Go.Proofs.Ytjomgaafnpbmhaa.C Go.Proofs.Ytjomgaafnpbmhaa.D Go.Proofs.Ytjomgaafnpbmhaa.F Go.Proofs.Ytjomgaafnpbmhaa.G Go.Proofs.Ytjomgaafnpbmhaa.H Go.Proofs.Ytjomgaafnpbmhaa.I Go.Proofs.Ytjomgaafnpbmhaa.J Go.Proofs.Ytjomgaafnpbmhaa.O Go.Proofs.Ytjomgaafnpbmhaa.P Go.Proofs.Ytjomgaafnpbmhaa.R
set_option linter.unusedVariables false
set_option linter.unusedSimpArgs false

theorem made2 (w : World) (o1 o2 : Obj) (e size : Nat) : (((w.alloc o1).alloc o2).alloc (.cells #[] e)).ownsRow (w.heap.size + 1 + 1) e size (.slice (some ⟨w.heap.size + 1 + 1, 0, none⟩) 0 0) 0 [] := by
  have := own_of_made (W := (w.alloc o1).alloc o2) (e := e) (size := size) (cap := 0)
  simpa using this

theorem own_any (x : Entry) (A : Option Addr) (c : Nat) (w : World) (h : Sl w 1 A x.data.length c (ints x.data)) (hl : x.data.length ≤ 1099511627776) :
    Calls Try.prog 55 #[x.val A c] w (OwnedE w x) := by
  unfold Entry.val
  have hsl := fun o1 o2 o3 => ((h.ext (E.Ext.alloc w o1)).ext (E.Ext.alloc _ o2)).ext (E.Ext.alloc _ o3)
  go_enter Try.func55, Try.ntmps55
  have hmade := fun o1 o2 => made2 w o1 o2 3 1
  have hb1 := fun o2 o3 => ((E.Blk.new w 30 #[.int .i64 x.stamp, .int .i64 x.sensor, .int .i64 x.seq, .bool x.input, .slice A x.data.length c]).alloc o2).alloc o3
  have hb2 := fun o1 o3 => (E.Blk.new (w.alloc o1) 30 #[.int .i64 0, .int .i64 0, .int .i64 0, .bool false, .slice none 0 0]).alloc o3
  simp only [World.size_alloc] at hb2
  go_wp2_with (at_builtin; go_must (refine wpList_append_sl st28 rfl _ _ rfl (w.heap.size + 1 + 1) _ 0 [] rfl (hmade _ _) _ _ _ _ rfl (hsl _ _ _) (ints_one _) (by omega) (by decide) (by simp) ?_; intro v' w' hown hb _; have H1 := (hb1 _ _).below hb (by omega); have H2 := (hb2 _ _).below hb (by omega); obtain ⟨cH1, fH1⟩ := H1.facts; obtain ⟨cH2, fH2⟩ := H2.facts; obtain ⟨A', c', hv, _⟩ := own_sl hown; rw [hv] at hown ⊢))
  have hE : E.Ext w w' := (((E.Ext.alloc w _).trans (E.Ext.alloc _ _)).trans (E.Ext.alloc _ _)).then (Below.mono hb (by omega))
  simp only [Nat.zero_add, List.nil_append] at hown
  refine bodyPost_ret (v := x.val A' c') (by simp [results, Try.results55, go_sem, cH1, cH2, Entry.val]) rfl ⟨A', c', rfl, ?_, ?_⟩
  · repeat (refine E.Ext.setCell ?_ (by simp <;> omega) _)
    exact hE
  · refine own_mono (base := w.heap.size + 1 + 1) ?_ (by omega)
    repeat (refine own_set ?_ (by simp <;> omega) _)
    exact hown

/-! ### The document's ring in memory -/
structure Rec where
  e : Entry
  A : Option Addr
  c : Nat
def Rec.cells (r : Rec) : List Value := [.int .i64 r.e.stamp, .int .i64 r.e.sensor, .int .i64 r.e.seq, .bool r.e.input, .slice r.A r.e.data.length r.c]
def rcells (l : List Rec) : List Value := l.flatMap Rec.cells
theorem rcells_len (l : List Rec) : (rcells l).length = l.length * 5 := by
  induction l with
  | nil => rfl
  | cons k l ih => simp only [rcells, List.flatMap_cons, List.length_append, List.length_cons] at *; rw [ih]; simp [Rec.cells]; omega
theorem rcells_append (l m : List Rec) : rcells (l ++ m) = rcells l ++ rcells m := by simp [rcells]
theorem rcells_one (l : List Rec) : ∀ u ∈ rcells l, u.oneCell' = true := by
  intro u hu
  obtain ⟨k, _, hk⟩ := List.mem_flatMap.1 hu
  simp only [Rec.cells, List.mem_cons, List.not_mem_nil, or_false] at hk
  rcases hk with rfl | rfl | rfl | rfl | rfl <;> rfl
theorem rcells_get {l : List Rec} {i : Nat} {k : Rec} (h : l[i]? = some k) : ∀ j, j < 5 → (rcells l)[i * 5 + j]? = k.cells[j]? := by
  induction l generalizing i with
  | nil => simp at h
  | cons x l ih =>
    intro j hj
    simp only [rcells, List.flatMap_cons]
    cases i with
    | zero =>
      simp at h
      subst h
      rw [Nat.zero_mul, Nat.zero_add, List.getElem?_append_left (by simp [Rec.cells]; omega)]
    | succ i =>
      rw [List.getElem?_append_right (by simp [Rec.cells]; omega)]
      have := ih (i := i) (by simpa using h) j hj
      unfold rcells at this
      rw [← this]
      congr 1
      simp [Rec.cells]
      omega
theorem rcells_take (l : List Rec) (k : Nat) : rcells (l.take k) = (rcells l).take (k * 5) := by
  induction l generalizing k with
  | nil => simp [rcells]
  | cons x l ih =>
    cases k with
    | zero => simp [rcells]
    | succ k =>
      have h5 : x.cells.length = 5 := rfl
      have := ih k
      simp only [rcells, List.take_succ_cons, List.flatMap_cons] at *
      rw [this, List.take_append, h5, List.take_of_length_le (l := x.cells) (by rw [h5]; omega), show (k + 1) * 5 - 5 = k * 5 by omega]
theorem rcells_drop (l : List Rec) (k : Nat) : rcells (l.drop k) = (rcells l).drop (k * 5) := by
  induction l generalizing k with
  | nil => simp [rcells]
  | cons x l ih =>
    cases k with
    | zero => simp [rcells]
    | succ k =>
      have h5 : x.cells.length = 5 := rfl
      have := ih k
      simp only [rcells, List.drop_succ_cons, List.flatMap_cons] at *
      rw [this, List.drop_append, h5, List.drop_of_length_le (l := x.cells) (by rw [h5]; omega), List.nil_append, show (k + 1) * 5 - 5 = k * 5 by omega]

/-- A slice of entries whose block is known. -/
structure RowB (w : World) (A : Option Addr) (n c : Nat) (xs : List Value) : Prop where
  len : xs.length = n * 5
  cap : n ≤ c
  max : c ≤ 9223372036854775807
  plain : (A = none ∧ c = 0) ∨ ∃ b o, A = some ⟨b, o, none⟩
  blk : xs ≠ [] → ∃ b o cs, A = some ⟨b, o, none⟩ ∧ E.Blk w b 30 cs ∧ ∀ j u, xs[j]? = some u → cs[o + j]? = some u

section
variable {w w' : World} {A : Option Addr} {n c : Nat} {xs : List Value} {F F' : Nat → Prop} {rb K : Nat} {l : List Entry}
theorem RowB.ext (h : RowB w A n c xs) (hx : E.Ext w w') : RowB w' A n c xs :=
  ⟨h.len, h.cap, h.max, h.plain, fun hn => by obtain ⟨b, o, cs, h1, h2, h3⟩ := h.blk hn; exact ⟨b, o, cs, h1, h2.ext hx, h3⟩⟩
theorem RowB.extS {S : Nat → Prop} (h : RowB w A n c xs) (hx : E.ExtS S w w') (hS : ∀ k cs, E.Blk w k 30 cs → ¬ S k) : RowB w' A n c xs :=
  ⟨h.len, h.cap, h.max, h.plain, fun hn => by obtain ⟨b, o, cs, h1, h2, h3⟩ := h.blk hn; exact ⟨b, o, cs, h1, h2.extS hx (hS _ _ h2), h3⟩⟩
theorem RowB.sl (h : RowB w A n c xs) : Sl w 5 A n c xs :=
  ⟨h.len, h.cap, h.max, fun hn => by obtain ⟨b, o, cs, h1, h2, h3⟩ := h.blk hn; exact ⟨b, o, h1, h2.lt, fun j u hu => by rw [h2.cell]; exact h3 j u hu⟩⟩
theorem RowB.own {base : Nat} (h : w.ownsRow base 30 5 (.slice A n c) n xs) : RowB w A n c xs := by
  have hsl := own_sl' h
  refine ⟨hsl.len, hsl.cap, hsl.max, ?_, fun hn => ?_⟩
  · rcases h.2 with ⟨h1, h2⟩ | ⟨g, cap, cur, h3, _⟩
    · injection h1 with e1 e2 e3
      exact .inl ⟨e1, e3⟩
    · injection h3 with e1 e2 e3
      exact .inr ⟨g, 0, e1⟩
  rcases h.2 with ⟨h1, h2⟩ | ⟨g, cap, cur, h3, hb, hg, h4, h5, h6, h7⟩
  · exfalso
    apply hn
    apply List.eq_nil_of_length_eq_zero
    have := hsl.len
    rw [this, h2]
  · injection h3 with e1 e2 e3
    subst e1 e3
    refine ⟨g, 0, cur, rfl, hg, fun j u hu => ?_⟩
    have hgb : E.Blk w g 30 cur := hg
    have := h.cells (g := g) rfl j u hu
    rw [addr_add, hgb.cell] at this
    exact this

def RecOk (F : Nat → Prop) (w : World) (r : Rec) : Prop :=
  w.ownsRow 0 3 1 (.slice r.A r.e.data.length r.c) r.e.data.length (ints r.e.data) ∧ ∀ k, (Value.slice r.A r.e.data.length r.c).ownBlock = some k → F k
theorem RecOk.ext {r : Rec} (h : RecOk F w r) (hx : E.Ext w w') : RecOk F w' r := ⟨own_ext h.1 hx, h.2⟩
theorem RecOk.mono {r : Rec} (h : RecOk F w r) (hF : ∀ k, k < w.heap.size → F k → F' k) : RecOk F' w r := ⟨h.1, fun k hk => hF k (h.1.lt k hk).2 (h.2 k hk)⟩
theorem RecOk.extS {S : Nat → Prop} {r : Rec} (h : RecOk F w r) (hx : E.ExtS S w w') (hS : ∀ k, F k → ¬ S k) : RecOk F w' r := by
  refine ⟨⟨h.1.1, ?_⟩, h.2⟩
  rcases h.1.2 with e2 | ⟨g, cap, cur, e3, e4, e5, e6⟩
  · exact .inl e2
  · refine .inr ⟨g, cap, cur, e3, e4, ?_, e6⟩
    rw [hx.block g (Array.getElem?_eq_some_iff.1 e5).1 (hS g (h.2 g (by rw [e3]; rfl)))]
    exact e5

/-- The document's ring. -/
def RefAt (F : Nat → Prop) (w : World) (rb K : Nat) (l : List Entry) : Prop :=
  ∃ (rs : List Rec) (A : Option Addr) (c : Nat), l = rs.map Rec.e ∧ E.Blk w rb 51 #[.int .i64 K, .slice A l.length c] ∧ RowB w A l.length c (rcells rs) ∧ ∀ r, r ∈ rs → RecOk F w r
theorem RefAt.ext (h : RefAt F w rb K l) (hx : E.Ext w w') : RefAt F w' rb K l := by
  obtain ⟨rs, A, c, h1, h2, h3, h4⟩ := h
  exact ⟨rs, A, c, h1, h2.ext hx, h3.ext hx, fun r hr => (h4 r hr).ext hx⟩
theorem RefAt.mono (h : RefAt F w rb K l) (hF : ∀ k, k < w.heap.size → F k → F' k) : RefAt F' w rb K l := by
  obtain ⟨rs, A, c, h1, h2, h3, h4⟩ := h
  exact ⟨rs, A, c, h1, h2, h3, fun r hr => (h4 r hr).mono hF⟩
theorem RefAt.extS {S : Nat → Prop} (h : RefAt F w rb K l) (hx : E.ExtS S w w') (hb : ¬ S rb) (h30 : ∀ k cs, E.Blk w k 30 cs → ¬ S k) (h3 : ∀ k, F k → ¬ S k) : RefAt F w' rb K l := by
  obtain ⟨rs, A, c, k1, k2, k3, k4⟩ := h
  exact ⟨rs, A, c, k1, k2.extS hx hb, k3.extS hx h30, fun r hr => (k4 r hr).extS hx h3⟩

/-- The cells of the entry at i. -/
theorem rec_at {rs : List Rec} (h : RowB w A rs.length c (rcells rs)) {i : Nat} {r : Rec} (hi : rs[i]? = some r) :
    ∃ b o, A = some ⟨b, o, none⟩ ∧ w.cell? ⟨b, o + i * 5, none⟩ = some (.int .i64 r.e.stamp) ∧ w.cell? ⟨b, o + i * 5 + 1, none⟩ = some (.int .i64 r.e.sensor) ∧ w.cell? ⟨b, o + i * 5 + 2, none⟩ = some (.int .i64 r.e.seq) ∧
      w.cell? ⟨b, o + i * 5 + 3, none⟩ = some (.bool r.e.input) ∧ w.cell? ⟨b, o + i * 5 + 4, none⟩ = some (.slice r.A r.e.data.length r.c) := by
  have hil := (List.getElem?_eq_some_iff.1 hi).1
  obtain ⟨b, o, rfl, _, hc⟩ := h.sl.cells (by
    intro e
    have := h.len
    rw [e] at this
    simp only [List.length_nil] at this
    omega)
  refine ⟨b, o, rfl, ?_, ?_, ?_, ?_, ?_⟩
  · exact hc (i * 5) _ (rcells_get hi 0 (by omega))
  · rw [Nat.add_assoc]; exact hc (i * 5 + 1) _ (rcells_get hi 1 (by omega))
  · rw [Nat.add_assoc]; exact hc (i * 5 + 2) _ (rcells_get hi 2 (by omega))
  · rw [Nat.add_assoc]; exact hc (i * 5 + 3) _ (rcells_get hi 3 (by omega))
  · rw [Nat.add_assoc]; exact hc (i * 5 + 4) _ (rcells_get hi 4 (by omega))
/-- What a call at place i sees. -/
theorem RefAt.at_ (h : RefAt F w rb K l) {i : Nat} {x : Entry} (hi : l[i]? = some x) :
    ∃ A c b o A' c', E.Blk w rb 51 #[.int .i64 K, .slice A l.length c] ∧ l.length ≤ c ∧ c ≤ 9223372036854775807 ∧ A = some ⟨b, o, none⟩ ∧ w.cell? ⟨b, o + i * 5, none⟩ = some (.int .i64 x.stamp) ∧ w.cell? ⟨b, o + i * 5 + 1, none⟩ = some (.int .i64 x.sensor) ∧ w.cell? ⟨b, o + i * 5 + 2, none⟩ = some (.int .i64 x.seq) ∧
      w.cell? ⟨b, o + i * 5 + 3, none⟩ = some (.bool x.input) ∧ w.cell? ⟨b, o + i * 5 + 4, none⟩ = some (.slice A' x.data.length c') ∧ Sl w 1 A' x.data.length c' (ints x.data) := by
  obtain ⟨rs, A, c, rfl, h2, h3, h4⟩ := h
  rw [List.getElem?_map] at hi
  cases hr : rs[i]? with
  | none => rw [hr] at hi; cases hi
  | some r =>
    rw [hr] at hi
    simp only [Option.map_some, Option.some.injEq] at hi
    subst hi
    have hl : (rs.map Rec.e).length = rs.length := by simp
    have h3' := h3
    rw [hl] at h3'
    obtain ⟨b, o, rfl, c0, c1, c2, c3, c4⟩ := rec_at h3' hr
    exact ⟨_, c, b, o, r.A, r.c, h2, h3.cap, h3.max, rfl, c0, c1, c2, c3, c4, own_sl' (h4 r (List.mem_of_getElem? hr)).1⟩
theorem RefAt.blk (h : RefAt F w rb K l) : ∃ A c, E.Blk w rb 51 #[.int .i64 K, .slice A l.length c] ∧ l.length ≤ c ∧ c ≤ 9223372036854775807 := by
  obtain ⟨rs, A, c, h1, h2, h3, h4⟩ := h
  exact ⟨A, c, h2, h3.cap, h3.max⟩
end
end Go.Proofs.Ytjomgaafnpbmhaa.V
