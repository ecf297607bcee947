/- Stores, copies, clears into a block that is known; appends where there is no room. -/
import Derived.Test.YtedpkficechjnaaK
import Derived.Laws.CopyRow
namespace Go.Proofs.Ytedpkficechjnaa.S
open Go.RowKit
open Go.Proofs.Ytedpkficechjnaa Go.Proofs.Ytedpkficechjnaa.K
set_option linter.unusedVariables false
set_option linter.unusedSimpArgs false

theorem own_sl' {w : World} {base size n : Nat} {e : TypeId} {A : Option Addr} {c : Nat} {xs : List Value} (h : w.ownsRow base e size (.slice A n c) n xs) : Sl w size A n c xs := by
  obtain ⟨A', c', hv, hs⟩ := own_sl h
  injection hv with h1 _ h3
  subst h1 h3
  exact hs
section
variable {P : Program} {w : World} {t e size bytes : Nat}
/-- Block g behind cells that were stored from o on. -/
def Put (w : World) (g t : Nat) (cs : Array Value) (o : Nat) (vs : List Value) (w' : World) : Prop :=
  ∃ cs' : Array Value, E.Blk w' g t cs' ∧ cs'.size = cs.size ∧ (∀ j, cs'[j]? = if o ≤ j ∧ j < o + vs.length then vs[j - o]? else cs[j]?) ∧ E.ExtS (fun k => k = g) w w'
theorem setRow_extS (w : World) (g : Nat) (cs : Array Value) : E.ExtS (fun k => k = g) w (w.setRow g cs) :=
  ⟨rfl, rfl, rfl, by simp, fun k _ hk => setRow_other w g k _ hk⟩
theorem put_of {g : Nat} {cs : Array Value} {o : Nat} {vs : List Value} (hB : E.Blk w g t cs) (hfit : o + vs.length ≤ cs.size) :
    Put w g t cs o vs (w.setRow g (cs.toList.take o ++ vs ++ cs.toList.drop (o + vs.length)).toArray) := by
  refine ⟨_, setRow_heap w g cs _ t _ hB, ?_, fun j => ?_, setRow_extS w g _⟩
  · simp only [List.size_toArray, List.length_append, List.length_take, List.length_drop, Array.length_toList]
    omega
  · have hl : (cs.toList.take o).length = o := by rw [List.length_take, Array.length_toList]; omega
    simp only [List.getElem?_toArray]
    by_cases h1 : j < o
    · rw [if_neg (by omega), List.append_assoc, List.getElem?_append_left (by omega), List.getElem?_take, if_pos h1, Array.getElem?_toList]
    · by_cases h2 : j < o + vs.length
      · rw [if_pos ⟨by omega, h2⟩, List.append_assoc, List.getElem?_append_right (by omega), hl, List.getElem?_append_left (by omega)]
      · rw [if_neg (by omega), List.getElem?_append_right (by rw [List.length_append, hl]; omega), List.length_append, hl, List.getElem?_drop, show o + vs.length + (j - (o + vs.length)) = j by omega, Array.getElem?_toList]
theorem run_store_blk {g o : Nat} {cs : Array Value} {vs : List Value} (hB : E.Blk w g t cs) (hfit : o + vs.length ≤ cs.size) (h1 : ∀ v ∈ vs, v.oneCell' = true) :
    ∃ w', (storeCells ⟨g, o, none⟩ vs).run P w = .ok () w' ∧ Put w g t cs o vs w' := by
  have hst := run_storeCells_at P g o t vs 0 cs w hB (by simpa using hfit) h1
  simp only [Nat.add_zero] at hst
  exact ⟨_, hst, put_of hB hfit⟩

theorem zero_one {z : Value} {n : Nat} (h : ∀ u ∈ z.cells, u.oneCell' = true) (hz : 0 < z.cells.size) : ∀ u ∈ (Builtin.zeroCells z.cells n).toList, u.oneCell' = true := by
  intro u hu
  simp only [Builtin.zeroCells, Array.toList_map, List.mem_map] at hu
  obtain ⟨i, _, rfl⟩ := hu
  have : i % z.cells.size < z.cells.size := Nat.mod_lt _ hz
  rw [getElem!_pos z.cells _ this]
  exact h _ (Array.getElem_mem this)

/-- A slice's type whose element's zero is known. -/
def STz (P : Program) (t e size bytes : Nat) (z : Value) : Prop :=
  ∃ i : TypeInfo, P.underlying t = some (.slice e) ∧ P.info? e = some i ∧ i.zero = some z ∧ i.size = size ∧ i.bytes = bytes ∧ z.cells.size = size ∧ 0 < size ∧ ∀ u ∈ z.cells, u.oneCell' = true
theorem STz.st {z : Value} (h : STz P t e size bytes z) : ST P t e size bytes := by
  obtain ⟨i, h1, h2, h3, h4, h5, h6, h7, _⟩ := h
  exact ⟨i, z, h1, h2, h3, h4, h5, h6, h7⟩

theorem run_clear_blk {z : Value} (st : STz P t e size bytes z) {t' g o n c : Nat} {cs : Array Value} (hB : E.Blk w g t' cs) (hn : 0 < n) (hfit : o + n * size ≤ cs.size) :
    ∃ w', (∀ ty, (Builtin.clear_ #[t] ty #[.slice (some ⟨g, o, none⟩) n c]).run P w = .ok (.tuple #[]) w') ∧ Put w g t' cs o (Builtin.zeroCells z.cells n).toList w' := by
  obtain ⟨i, ht, hi, hz, hs, hby, hzs, hsz, h1⟩ := st
  have hlen : (Builtin.zeroCells z.cells n).toList.length = n * size := by rw [Array.length_toList, size_zeroCells, hzs]
  obtain ⟨w', hst, hp⟩ := run_store_blk (P := P) (o := o) (vs := (Builtin.zeroCells z.cells n).toList) hB (by rw [hlen]; exact hfit) (zero_one h1 (by omega))
  refine ⟨w', fun ty => ?_, hp⟩
  obtain ⟨m, rfl⟩ : ∃ m, n = m + 1 := ⟨n - 1, by omega⟩
  simp [Builtin.clear_, run_underlying ht, zeroValue, typeInfo, hi, hz, hst]

/-- copy into a block, from what reads as a list. -/
theorem run_copy_blk (st : ST P t e size bytes) {t' g o dl dc n c : Nat} {cs : Array Value} {A : Option Addr} {xs : List Value} (hB : E.Blk w g t' cs) (hsl : Sl w size A n c xs) (hd : n ≤ dl) (hfit : o + n * size ≤ cs.size) (h1 : ∀ u ∈ xs, u.oneCell' = true) :
    ∃ w', (∀ ty, (Builtin.copy_ #[t, t] ty #[.slice (some ⟨g, o, none⟩) dl dc, .slice A n c]).run P w = .ok (goInt n) w') ∧ Put w g t' cs o xs w' := by
  obtain ⟨i, z, ht, hi, hz, hs, hby, hzs, hsz⟩ := st
  have hlen := hsl.len
  obtain ⟨w', hst, hp⟩ := run_store_blk (P := P) (o := o) (vs := xs) hB (by rw [hlen]; exact hfit) h1
  refine ⟨w', fun ty => ?_, hp⟩
  have hmin : Nat.min n dl = n := Nat.min_eq_left hd
  by_cases hne : xs = []
  · have hn0 : n = 0 := by
      rw [hne] at hlen
      rcases Nat.eq_zero_or_pos n with h0 | h0
      · exact h0
      · have := Nat.mul_pos h0 hsz
        simp only [List.length_nil] at hlen
        omega
    subst hn0
    subst hne
    cases A with
    | none => simp [Builtin.copy_, run_underlying ht, Builtin.lenOf, Builtin.firstCells, sizeOf, typeInfo, hi, hst]
    | some a => simp [Builtin.copy_, run_underlying ht, Builtin.lenOf, Builtin.firstCells, sizeOf, typeInfo, hi, hst, loadCells, loadCellsFrom]
  · obtain ⟨b, o', rfl, hb, hc⟩ := hsl.cells hne
    have hf := run_firstCells_some (P := P) w i.size n ⟨b, o', none⟩ n c xs (by rw [hs]; exact hlen) (fun j u hu => by rw [addr_add]; exact hc j u hu)
    simp [Builtin.copy_, run_underlying ht, Builtin.lenOf, sizeOf, typeInfo, hi, hmin, hf, hst]

/-- append where there is no room: a new row. -/
theorem run_append_over (st : ST P t e size bytes) (ty : TypeId) (A : Option Addr) (n c : Nat) (xs : List Value) (hs : Sl w size A n c xs) (B : Option Addr) (m d : Nat) (news : List Value) (hx : Sl w size B m d news)
    (hroom : c < n + m) (hlen : n + m ≤ 1099511627776) (hbytes : bytes ≤ 128) (hA : A = none → c = 0) :
    ∃ A' c' w', (Builtin.append_ #[t, t] ty #[.slice A n c, .slice B m d]).run P w = .ok (.slice A' (n + m) c') w' ∧ w'.ownsRow w.heap.size e size (.slice A' (n + m) c') (n + m) (xs ++ news) ∧ E.Ext w w' := by
  obtain ⟨i, z, ht, hi, hz, hsize, hby, hzs, hsz⟩ := st
  have hb : (n + m) * bytes ≤ 140737488355328 := Nat.le_trans (Nat.mul_le_mul hlen hbytes) (by decide)
  have hcap := hs.cap
  have hm0 : 0 < m := by omega
  have hnl : news ≠ [] := by
    intro h
    have := hx.len
    rw [h] at this
    have h2 := Nat.mul_pos hm0 hsz
    simp only [List.length_nil] at this
    omega
  obtain ⟨b, o, rfl, hbl, hcell⟩ := hx.cells hnl
  have hll : (xs ++ news).length = (n + m) * size := by rw [List.length_append, hs.len, hx.len, Nat.add_mul]
  have hge := grownCap_ge w (n + m) c e
  have hcm : grownCap w (n + m) c e ≤ maxLen := grownCap_le_maxLen w (n + m) c e (by unfold maxLen; omega)
  have fin : (w.drew.alloc (.cells (xs.toArray ++ news.toArray ++ Builtin.zeroCells z.cells (grownCap w (n + m) c e - (n + m))) e)).ownsRow w.heap.size e size
      (.slice (some ⟨w.heap.size, 0, none⟩) (n + m) (grownCap w (n + m) c e)) (n + m) (xs ++ news) := by
    refine ⟨hll, .inr ⟨w.heap.size, _, _, rfl, Nat.le_refl _, heap_alloc_new w.drew _, hge, hcm, ?_, ?_⟩⟩
    · simp only [Array.size_append, List.size_toArray, size_zeroCells, hzs]
      rw [← List.length_append, hll, ← Nat.add_mul]
      congr 1
      omega
    · simp only [Array.toList_append, List.append_assoc]
      rw [← List.append_assoc, ← hll]
      exact List.take_left
  have hext : E.Ext w (w.drew.alloc (.cells (xs.toArray ++ news.toArray ++ Builtin.zeroCells z.cells (grownCap w (n + m) c e - (n + m))) e)) := (E.Ext.drew w).trans (E.Ext.alloc _ _)
  cases A with
  | none =>
    have hc0 := hA rfl
    subst hc0
    have hn0 : n = 0 := by omega
    subst hn0
    have hxs : xs = [] := List.eq_nil_of_length_eq_zero (by simpa using hs.len)
    subst hxs
    have hr := run_append_nil (P := P) w t ty e i z ht hi hz ⟨b, o, none⟩ m d news (by rw [hsize]; exact hx.len) (fun j u hu => by rw [addr_add]; exact hcell j u hu) hm0 (by omega) (by rw [hby]; have h := hb; simp only [Nat.zero_add] at h; omega)
    simp only [Nat.zero_add, List.nil_append, Array.empty_append] at fin hext ⊢
    exact ⟨_, _, _, hr, fin, hext⟩
  | some a =>
    have hr := run_append_grow (P := P) w t ty e i z ht hi hz a n c xs (by rw [hsize]; exact hs.len) (fun j u hu => by
      obtain ⟨b', o', e', _, hc'⟩ := hs.cells (by rintro rfl; cases hu)
      cases e'
      rw [addr_add]
      exact hc' j u hu) ⟨b, o, none⟩ m d news (by rw [hsize]; exact hx.len) (fun j u hu => by rw [addr_add]; exact hcell j u hu) hroom (by omega) (growslice_fits hroom (by rw [hby]; exact hb))
    exact ⟨_, _, _, hr, fin, hext⟩

/-- append(xs, make([]T, m)...) where there is no room. -/
theorem run_append_zeros {z : Value} (st : STz P t e size bytes z) (t2 : TypeId) (h2 : P.underlying t2 = some (.int .i64)) (ty : TypeId) (A : Option Addr) (n c : Nat) (xs : List Value) (hs : Sl w size A n c xs) (m : Nat)
    (hroom : c < n + m) (hlen : n + m ≤ 1099511627776) (hbytes : bytes ≤ 128) :
    ∃ A' c' w', (Builtin.append_ #[t, t2] ty #[.slice A n c, .int .i64 m]).run P w = .ok (.slice A' (n + m) c') w' ∧ w'.ownsRow w.heap.size e size (.slice A' (n + m) c') (n + m) (xs ++ (Builtin.zeroCells z.cells m).toList) ∧ E.Ext w w' := by
  obtain ⟨i, ht, hi, hz, hsize, hby, hzs, hsz, h1⟩ := st
  have hb : (n + m) * bytes ≤ 140737488355328 := Nat.le_trans (Nat.mul_le_mul hlen hbytes) (by decide)
  have hcap := hs.cap
  have hm0 : 0 < m := by omega
  have hll : (xs ++ (Builtin.zeroCells z.cells m).toList).length = (n + m) * size := by rw [List.length_append, hs.len, Array.length_toList, size_zeroCells, hzs, Nat.add_mul]
  have hge := grownCap_ge w (n + m) c e
  have hcm : grownCap w (n + m) c e ≤ maxLen := grownCap_le_maxLen w (n + m) c e (by unfold maxLen; omega)
  have fin : (w.drew.alloc (.cells (xs.toArray ++ Builtin.zeroCells z.cells m ++ Builtin.zeroCells z.cells (grownCap w (n + m) c e - (n + m))) e)).ownsRow w.heap.size e size
      (.slice (some ⟨w.heap.size, 0, none⟩) (n + m) (grownCap w (n + m) c e)) (n + m) (xs ++ (Builtin.zeroCells z.cells m).toList) := by
    refine ⟨hll, .inr ⟨w.heap.size, _, _, rfl, Nat.le_refl _, heap_alloc_new w.drew _, hge, hcm, ?_, ?_⟩⟩
    · simp only [Array.size_append, List.size_toArray, size_zeroCells, hzs, hs.len]
      rw [← Nat.add_mul, ← Nat.add_mul]
      congr 1
      omega
    · simp only [Array.toList_append, List.append_assoc]
      rw [← List.append_assoc, ← hll]
      exact List.take_left
  have hext : E.Ext w (w.drew.alloc (.cells (xs.toArray ++ Builtin.zeroCells z.cells m ++ Builtin.zeroCells z.cells (grownCap w (n + m) c e - (n + m))) e)) := (E.Ext.drew w).trans (E.Ext.alloc _ _)
  have hwrap : IntKind.i64.wrap (m : Int) = m := IntWalk.i64_in _ (by omega)
  have hl0 : ¬ (m : Int) < 0 := by omega
  have hl1 : ¬ (281474976710656 : Int) < (m : Int) * (i.bytes : Int) := by
    have h3 : m * bytes ≤ 140737488355328 := Nat.le_trans (Nat.mul_le_mul_right _ (by omega)) hb
    rw [hby]
    have : ((m * bytes : Nat) : Int) ≤ 140737488355328 := by omega
    rw [Int.natCast_mul] at this
    omega
  have hnr : ¬ (n + m ≤ c) := by omega
  have h63' : ¬ (9223372036854775807 < ((n : Int) + (m : Int))) := by omega
  have hfit := growslice_fits hroom hb
  rw [← hby] at hfit
  have h48' : ¬ (281474976710656 < Builtin.nextslicecap (n + m) c * i.bytes) := by omega
  have hms : ¬ m * size = 0 := by have := Nat.mul_pos hm0 hsz; omega
  have hfirst : (Builtin.firstCells i.size n (.slice A n c)).run P w.drew = .ok xs.toArray w.drew := by
    by_cases hne : xs = []
    · subst hne
      have hn0 : n = 0 := by
        have hl := hs.len
        rcases Nat.eq_zero_or_pos n with h0 | h0
        · exact h0
        · have := Nat.mul_pos h0 hsz
          simp only [List.length_nil] at hl
          omega
      subst hn0
      cases A with
      | none => simp [Builtin.firstCells]
      | some a => simp [Builtin.firstCells, loadCells, loadCellsFrom]
    · obtain ⟨b', o', rfl, _, hc'⟩ := hs.cells hne
      exact run_firstCells_some (P := P) w.drew i.size n ⟨b', o', none⟩ n c xs (by rw [hsize]; exact hs.len) (fun j u hu => by rw [addr_add]; exact hc' j u hu)
  refine ⟨_, _, _, ?_, fin, hext⟩
  rw [← hsize] at hms
  have hmax : max (m : Int) 0 = m := by omega
  have hms2 : ¬ (m = 0 ∨ i.size = 0) := by omega
  simp [Builtin.append_, run_underlying ht, run_underlying h2, sizeOf, typeInfo, zeroValue, asInt, asIntOf, hi, hz, hwrap, hl0, hl1, hms2, hmax, hnr, h63', h48', Question.forced, hfirst, newRow, grownCap]
  exact fun h => absurd h hms

theorem wp_append_run {o : Oper} {a : Act} {K : Act → World → Prop} {Q : Exit → Act → World → Prop} {t1 t2 : TypeId} {v1 v2 v : Value} {w' : World} (s x : Operand)
    (ho : o.op = .call { callee := .builtin .append, args := #[s, x], argTypes := #[t1, t2] }) (hs : a.eval s = v1) (hx : a.eval x = v2)
    (hr : (Builtin.append_ #[t1, t2] o.type #[v1, v2]).run P w = .ok v w') (h : K (a.put o.dst v) w') : o.wp P a w K Q := by
  unfold Oper.wp execOp
  simp only [ho, resolve, invoke, builtin, Sem.run_bind, Sem.run_pure, Result.andThen_ok, List.map_toArray, List.map_cons, List.map_nil, hs, hx, hr]
  exact h
theorem wpList_append_run {ops : Array Oper} {rest : List Oper} {o : Oper} {a : Act} {Q : Exit → Act → World → Prop} {t1 t2 : TypeId} {v1 v2 v : Value} {w' : World} (hgd : o.guard = none) (s x : Operand)
    (ho : o.op = .call { callee := .builtin .append, args := #[s, x], argTypes := #[t1, t2] }) (hs : a.eval s = v1) (hx : a.eval x = v2)
    (hr : (Builtin.append_ #[t1, t2] o.type #[v1, v2]).run P w = .ok v w') (h : wpList P ops Q rest (a.put o.dst v) w') : wpList P ops Q (o :: rest) a w :=
  wpList_plain hgd fun _ hK => wp_append_run s x ho hs hx hr (hK _ _ h)
theorem wp_copy_run {o : Oper} {a : Act} {K : Act → World → Prop} {Q : Exit → Act → World → Prop} {t1 t2 : TypeId} {v1 v2 v : Value} {w' : World} (s x : Operand)
    (ho : o.op = .call { callee := .builtin .copy, args := #[s, x], argTypes := #[t1, t2] }) (hs : a.eval s = v1) (hx : a.eval x = v2)
    (hr : ∀ ty, (Builtin.copy_ #[t1, t2] ty #[v1, v2]).run P w = .ok v w') (h : K (a.put o.dst v) w') : o.wp P a w K Q := by
  unfold Oper.wp execOp
  simp only [ho, resolve, invoke, builtin, Sem.run_bind, Sem.run_pure, Result.andThen_ok, List.map_toArray, List.map_cons, List.map_nil, hs, hx, hr]
  exact h
theorem wpList_copy_run {ops : Array Oper} {rest : List Oper} {o : Oper} {a : Act} {Q : Exit → Act → World → Prop} {t1 t2 : TypeId} {v1 v2 v : Value} {w' : World} (hgd : o.guard = none) (s x : Operand)
    (ho : o.op = .call { callee := .builtin .copy, args := #[s, x], argTypes := #[t1, t2] }) (hs : a.eval s = v1) (hx : a.eval x = v2)
    (hr : ∀ ty, (Builtin.copy_ #[t1, t2] ty #[v1, v2]).run P w = .ok v w') (h : wpList P ops Q rest (a.put o.dst v) w') : wpList P ops Q (o :: rest) a w :=
  wpList_plain hgd fun _ hK => wp_copy_run s x ho hs hx hr (hK _ _ h)
end
end Go.Proofs.Ytedpkficechjnaa.S
