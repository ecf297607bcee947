/- (*Ring).Insert. -/
import Derived.Test.YtjomgaafnpbmhaaF
import Derived.Laws.StructEq
namespace Go.Proofs.Ytjomgaafnpbmhaa.G
open Go.RowKit
open Go.Proofs.Ytjomgaafnpbmhaa
open Go.Proofs.Ytjomgaafnpbmhaa.A Go.Proofs.Ytjomgaafnpbmhaa.K Go.Proofs.Ytjomgaafnpbmhaa.B Go.Proofs.Ytjomgaafnpbmhaa.C Go.Proofs.Ytjomgaafnpbmhaa.D Go.Proofs.Ytjomgaafnpbmhaa.F
set_option linter.unusedVariables false
set_option linter.unusedSimpArgs false

theorem guardKey (w : World) (x y : Operand) (xs ys : Array Value) : (eqGuard .eql 57 x y (.agg xs) (.agg ys)).run Try.prog w = .ok () w :=
  run_eqGuard_agg w .eql 57 x y xs ys (by kernel_rfl)
theorem heldKey : Try.prog.stoodInHeld 57 = false := by kernel_rfl
theorem fields57 : Try.prog.underlying 57 = some (.struct (Try.prog.fieldsOf 57)) := by
  unfold Program.fieldsOf
  rw [Try.underlying57]
theorem eqKey (w : World) (a b : Key) : (binOp .eql 57 a.val b.val).run Try.prog w = .ok (.bool (decide (a = b))) w := by
  unfold Key.val
  rw [run_eql_struct, run_equalIn_agg (P := Try.prog) w 9999 57 _ _ fields57 heldKey]
  unfold Program.fieldsOf
  rw [Try.underlying57]
  go_simp
  obtain ⟨a1, a2, a3⟩ := a
  obtain ⟨b1, b2, b3⟩ := b
  simp only [Key.mk.injEq]
  by_cases h1 : a1 = b1 <;> by_cases h2 : a2 = b2 <;> by_cases h3 : a3 = b3 <;> simp [h1, h2, h3]

theorem eqKey_yes {a b : Key} (h : a = b) (w : World) : (binOp .eql 57 a.val b.val).run Try.prog w = .ok (.bool true) w := by rw [eqKey]; simp [h]
theorem eqKey_no {a b : Key} (h : ¬ a = b) (w : World) : (binOp .eql 57 a.val b.val).run Try.prog w = .ok (.bool false) w := by rw [eqKey]; simp [h]
/-! ### Keys in order -/
theorem or3_neg (a b c : Int) (ha : a = -1 ∨ a = 0 ∨ a = 1) : or3 a b c < 0 ↔ a = -1 ∨ a = 0 ∧ (if b ≠ 0 then b < 0 else c < 0) := by
  unfold or3
  rcases ha with rfl | rfl | rfl <;> simp
  split <;> simp_all
theorem cmpI_cases (a b : Int) : (cmpI a b = -1 ∧ a < b) ∨ (cmpI a b = 0 ∧ a = b) ∨ (cmpI a b = 1 ∧ b < a) := by
  unfold cmpI
  by_cases h : a < b
  · exact .inl ⟨by simp [h], h⟩
  · by_cases h' : b < a
    · exact .inr (.inr ⟨by simp [h, h'], h'⟩)
    · exact .inr (.inl ⟨by simp [h, h'], by omega⟩)
theorem lt_iff (a b : Key) : a.lt b = true ↔ (a.stamp < b.stamp ∨ a.stamp = b.stamp ∧ (a.sensor < b.sensor ∨ a.sensor = b.sensor ∧ a.seq < b.seq)) := by
  unfold Key.lt Key.cmp or3
  rw [decide_eq_true_eq]
  rcases cmpI_cases a.stamp b.stamp with ⟨h, h'⟩ | ⟨h, h'⟩ | ⟨h, h'⟩ <;> rcases cmpI_cases a.sensor b.sensor with ⟨k, k'⟩ | ⟨k, k'⟩ | ⟨k, k'⟩ <;> rcases cmpI_cases a.seq b.seq with ⟨m, m'⟩ | ⟨m, m'⟩ | ⟨m, m'⟩ <;>
    (rw [h, k, m]; simp) <;> omega
theorem lt_trans {a b c : Key} (h : a.lt b = true) (k : b.lt c = true) : a.lt c = true := by
  rw [lt_iff] at *
  omega
theorem lt_irrefl (a : Key) : a.lt a = false := by
  cases h : a.lt a with
  | false => rfl
  | true => rw [lt_iff] at h; omega
theorem lt_total {a b : Key} (h : a.lt b = false) : a = b ∨ b.lt a = true := by
  have h' : ¬ a.lt b = true := by simp [h]
  rw [lt_iff] at h'
  rw [lt_iff]
  obtain ⟨a1, a2, a3⟩ := a
  obtain ⟨b1, b2, b3⟩ := b
  simp only [Key.mk.injEq] at *
  omega

/-- Rising keys. -/
def Sorted (l : List Entry) : Prop := ∀ (i j : Nat) x y, i < j → l[i]? = some x → l[j]? = some y → x.key.lt y.key = true

theorem turns_key {l : List Entry} (h : Sorted l) (k : Key) : Turns (fun y => y.key.lt k) l := by
  intro i j x y hij hx hy hq
  rcases Nat.lt_or_eq_of_le hij with h1 | h1
  · exact lt_trans (h i j x y h1 hx hy) hq
  · subst h1
    rw [hx] at hy
    cases hy
    exact hq
theorem turns_stamp {l : List Entry} (h : Sorted l) (t : Int) : Turns (fun y => decide (y.stamp ≤ t)) l := by
  intro i j x y hij hx hy hq
  rcases Nat.lt_or_eq_of_le hij with h1 | h1
  · have := h i j x y h1 hx hy
    rw [lt_iff] at this
    simp only [decide_eq_true_eq] at *
    unfold Entry.key at this
    simp only at this
    omega
  · subst h1
    rw [hx] at hy
    cases hy
    exact hq

/-- What Insert does: where, how many are moved, the error; the entries behind. -/
def pos (l : List Entry) (k : Key) : Nat := cnt (fun y => y.key.lt k) l
def insert_ (K : Nat) (l : List Entry) (x : Entry) : Int × Int × Int × List Entry :=
  if (l[pos l x.key]?).map Entry.key = some x.key then (0, 0, 7, l)
  else if l.length = K then (0, 0, 13, l)
  else (pos l x.key, (l.length : Int) - pos l x.key, 0, l.take (pos l x.key) ++ x :: l.drop (pos l x.key))

def Inserted (F : Nat → Prop) (w : World) (b pb : Nat) (r : RingD) (x : Entry) (e : Ending) (w' : World) : Prop :=
  e = .returned (.tuple #[.int .i64 (insert_ r.K r.l x).1, .int .i64 (insert_ r.K r.l x).2.1, .int .i64 (insert_ r.K r.l x).2.2.1]) ∧
    RingAt (fun k => F k ∨ w.heap.size ≤ k) w' b pb { r with l := (insert_ r.K r.l x).2.2.2 } ∧ E.ExtS (fun k => k = b ∨ k = pb) w w' ∧ ((insert_ r.K r.l x).2.2.1 ≠ 0 → E.Ext w w')

/-- The places while entries are moved: below k as they were, above k one on. -/
def Shifted (first K many k : Nat) (gp : Nat → Nat) (w : World) (pb : Nat) : Prop :=
  ∃ ps : Array Value, ps.size = K ∧ E.Blk w pb 69 ps ∧ ∀ j, j < K → (j < k → ps[(first + j) % K]? = some (.pointer (some ⟨gp j, 0, none⟩))) ∧ (k < j → j ≤ many → ps[(first + j) % K]? = some (.pointer (some ⟨gp (j - 1), 0, none⟩)))

theorem mod_two {a i K : Nat} (ha : a < K) (hi : i < K) : (a + i) % K = if a + i < K then a + i else a + i - K := by
  split
  · rename_i h; exact Nat.mod_eq_of_lt h
  · rename_i h
    rw [Nat.mod_eq_sub_mod (by omega)]
    exact Nat.mod_eq_of_lt (by omega)
theorem pos_inj {f K i j : Nat} (hi : i < K) (hj : j < K) (h : (f + i) % K = (f + j) % K) : i = j := by
  have ha : f % K < K := Nat.mod_lt _ (by omega)
  rw [← Nat.mod_add_mod f K i, ← Nat.mod_add_mod f K j, mod_two ha hi, mod_two ha hj] at h
  split at h <;> split at h <;> omega

theorem shift_step {first K many k : Nat} {gp : Nat → Nat} {w : World} {pb : Nat} {ps : Array Value} (hK : 1 ≤ K) (hk : k ≤ many) (hk0 : 0 < k) (hb : E.Blk w pb 69 ps) (hs : ps.size = K)
    (h : ∀ j, j < K → (j < k → ps[(first + j) % K]? = some (.pointer (some ⟨gp j, 0, none⟩))) ∧ (k < j → j ≤ many → ps[(first + j) % K]? = some (.pointer (some ⟨gp (j - 1), 0, none⟩)))) (hmK : many < K) :
    Shifted first K many (k - 1) gp (w.setCell ⟨pb, (first + k) % K, none⟩ (.pointer (some ⟨gp (k - 1), 0, none⟩))) pb := by
  refine ⟨_, ?_, hb.set _ _, fun j hj => ⟨fun h1 => ?_, fun h1 h2 => ?_⟩⟩
  · simp [hs]
  · rw [Array.getElem?_setIfInBounds_ne (fun e => by have := pos_inj (by omega) hj e; omega)]
    exact (h j hj).1 (by omega)
  · by_cases hjk : j = k
    · subst hjk
      rw [Array.getElem?_setIfInBounds_self_of_lt (by rw [hs]; exact Nat.mod_lt _ (by omega))]
    · rw [Array.getElem?_setIfInBounds_ne (fun e => by have := pos_inj (by omega) hj e; omega)]
      exact (h j hj).2 (by omega) h2

theorem get_inserted (l : List Entry) (x : Entry) (k : Nat) (hk : k ≤ l.length) (i : Nat) : (l.take k ++ x :: l.drop k)[i]? = if i < k then l[i]? else if i = k then some x else l[i - 1]? := by
  have hl : (l.take k).length = k := by simp [hk]
  rw [List.getElem?_append, hl]
  by_cases h1 : i < k
  · rw [if_pos h1, if_pos h1, List.getElem?_take, if_pos h1]
  · rw [if_neg h1, if_neg h1]
    by_cases h2 : i = k
    · subst h2; simp
    · rw [if_neg h2, List.getElem?_cons, if_neg (by omega), List.getElem?_drop]
      congr 1
      omega

theorem entry_set {F : Nat → Prop} {w : World} {g : Nat} {y : Entry} {p t : Nat} {cs : Array Value} {o : Nat} (u : Value) (h : EntryAt F w g y) (hp : E.Blk w p t cs) (h30 : (30 : Nat) ≠ t) (h3 : (3 : Nat) ≠ t) : EntryAt F (w.setCell ⟨p, o, none⟩ u) g y :=
  h.extS (S := fun i => i = p) (E.ExtS.set (S := fun i => i = p) (p := ⟨p, o, none⟩) (E.ExtS.refl _ _) (Or.inl rfl) _) (fun k _ hk e => hk.ne hp h30 e) (fun k _ hk e => hk.ne hp h3 e)

theorem ring_inserted {F : Nat → Prop} {r : RingD} {x : Entry} {k b pb g6 : Nat} {gp : Nat → Nat} {w6 wr w7 : World} {ps ps6 : Array Value} {A : Option Addr} {c base : Nat} (ok : r.Ok) (hfl : r.l.length < r.K) (hk : k ≤ r.l.length)
    (hB : RingB wr b pb r) (hps : E.Blk wr pb 69 ps) (hps6 : E.Blk w6 pb 69 ps6) (hx7 : E.Ext wr w7) (hs : ps.size = r.K)
    (h : ∀ j, j < r.K → (j < k → ps[(r.first + j) % r.K]? = some (.pointer (some ⟨gp j, 0, none⟩))) ∧ (k < j → j ≤ r.l.length → ps[(r.first + j) % r.K]? = some (.pointer (some ⟨gp (j - 1), 0, none⟩))))
    (he : ∀ (i : Nat) y, r.l[i]? = some y → EntryAt F w6 (gp i) y) (hxs : E.ExtS (fun i => i = pb) w6 wr)
    (hN : E.Blk w6 g6 30 #[.int .i64 x.stamp, .int .i64 x.sensor, .int .i64 x.seq, .bool x.input, .slice A x.data.length c])
    (hNo : w6.ownsRow base 3 1 (.slice A x.data.length c) x.data.length (ints x.data)) (hF : ∀ k, base ≤ k → F k) :
    RingAt F ((w7.setCell ⟨pb, (r.first + k) % r.K, none⟩ (.pointer (some ⟨g6, 0, none⟩))).setCell ⟨b, 2, none⟩ (.int .i64 ((r.l.length : Int) + 1))) b pb { r with l := r.l.take k ++ x :: r.l.drop k } := by
  have hbp : b ≠ pb := hB.ne hps (by decide)
  have hb7 := hps.ext hx7
  have hB7 : E.Blk w7 b 66 _ := E.Blk.ext hB hx7
  have hp8 := hb7.set ((r.first + k) % r.K) (.pointer (some ⟨g6, 0, none⟩))
  have hB8 := hB7.far (p := ⟨pb, (r.first + k) % r.K, none⟩) hbp (.pointer (some ⟨g6, 0, none⟩))
  have hp9 := hp8.far (p := ⟨b, 2, none⟩) (Ne.symm hbp) (.int .i64 ((r.l.length : Int) + 1))
  have hB9 := hB8.set 2 (.int .i64 ((r.l.length : Int) + 1))
  have hll : (r.l.take k ++ x :: r.l.drop k).length = r.l.length + 1 := by simp; omega
  have keep : ∀ g y, EntryAt F w6 g y → EntryAt F ((w7.setCell ⟨pb, (r.first + k) % r.K, none⟩ (.pointer (some ⟨g6, 0, none⟩))).setCell ⟨b, 2, none⟩ (.int .i64 ((r.l.length : Int) + 1))) g y := by
    intro g y hy
    have h1 := (hy.extS hxs (fun k _ hk e => hk.ne hps6 (by decide) e) (fun k _ hk e => hk.ne hps6 (by decide) e)).ext hx7
    exact entry_set _ (entry_set _ h1 hb7 (by decide) (by decide)) hB8 (by decide) (by decide)
  refine ⟨⟨ok.pos, ok.most, ok.first, by rw [hll]; exact hfl⟩, ?_, _, fun i => if i < k then gp i else if i = k then g6 else gp (i - 1), ?_, hp9, fun i y hi => ?_⟩
  · unfold RingB
    simp only [hll]
    exact hB9
  · simp [hs]
  · have hiK : i < r.K := by
      have := (List.getElem?_eq_some_iff.1 hi).1
      simp only [hll] at this
      omega
    simp only at hi
    rw [get_inserted _ _ _ hk] at hi
    by_cases h1 : i < k
    · rw [if_pos h1] at hi
      simp only [if_pos h1]
      refine ⟨?_, keep _ _ (he i y hi)⟩
      rw [Array.getElem?_setIfInBounds_ne (fun e => by have := pos_inj (by omega) hiK e; omega)]
      exact (h i hiK).1 h1
    · rw [if_neg h1] at hi
      by_cases h2 : i = k
      · subst h2
        rw [if_pos rfl] at hi
        cases hi
        simp only [Nat.lt_irrefl, if_false, if_true]
        refine ⟨?_, keep _ _ ⟨A, c, hN, own_mono hNo (Nat.zero_le _), fun k hk => hF k (hNo.lt k hk).1⟩⟩
        rw [Array.getElem?_setIfInBounds_self_of_lt (by rw [hs]; exact Nat.mod_lt _ (by omega))]
      · rw [if_neg h2] at hi
        simp only [if_neg h1, if_neg h2]
        refine ⟨?_, keep _ _ (he (i - 1) y hi)⟩
        rw [Array.getElem?_setIfInBounds_ne (fun e => by have := pos_inj (by omega) hiK e; omega)]
        have hl := (List.getElem?_eq_some_iff.1 hi).1
        exact (h i hiK).2 (by omega) (by omega)

set_option maxHeartbeats 800000 in
theorem insert_any {F : Nat → Prop} (b pb : Nat) (r : RingD) (x : Entry) (A : Option Addr) (c : Nat) (w : World) (hr : RingAt F w b pb r) (hs : Sorted r.l)
    (hx : Sl w 1 A x.data.length c (ints x.data)) (hl : x.data.length ≤ 1099511627776) :
    Calls Try.prog 8 #[.pointer (some ⟨b, 0, none⟩), x.val A c] w (Inserted F w b pb r x) := by
  have HT := Lib.hid (turns_key hs x.key)
  clear hs
  have hK := hr.ok.pos
  have hmost := hr.ok.most
  have hmany := hr.ok.many
  unfold Entry.val
  go_enter Try.func8, Try.ntmps8
  go_wp2_with (first | (go_at_call 28; refine (none_any b pb r _ (hr.struct.alloc _) hK).mono ?_; rintro e w' ⟨rfl, rfl⟩) | (go_at_call 23; refine (of_any x A c _).mono ?_; rintro e w1 ⟨rfl, hx1⟩; dsimp only [Key.val, Entry.key]; have H1 := E.blk0 hx1 rfl; try simp only [World.size_alloc, World.size_drew] at H1; obtain ⟨cH1, fH1⟩ := H1.facts))
  have hE1 : E.Ext w w1 := (E.Ext.alloc _ _).trans hx1
  refine (find_ins b pb r (fun y => y.key.lt x.key) (.pointer (some ⟨w1.heap.size, 0, none⟩)) _ (hr.ext (hE1.trans (E.Ext.alloc _ _))) HT.out (fun W hW y A c => ins1_any y A c x.key _ W ((E.Blk.new _ _ _).ext hW))).mono ?_
  rintro e w2 ⟨rfl, hx2⟩
  have hE2 : E.Ext w w2 := (hE1.trans (E.Ext.alloc _ _)).trans hx2
  have H2 := E.blk0 hx2 rfl
  dsimp only [Entry.key] at H2
  replace H1 := (H1.alloc _).ext hx2
  obtain ⟨cH1, fH1⟩ := H1.facts
  obtain ⟨cH2, fH2⟩ := H2.facts
  have hr2 := hr.ext hE2
  have hpos : cnt (fun y => y.key.lt x.key) r.l = pos r.l x.key := rfl
  rw [hpos]
  have hp : pos r.l x.key ≤ r.l.length := cnt_le _ _
  generalize hpp : pos r.l x.key = p at *
  have HP := Lib.hid hpp
  clear hpp hpos
  obtain ⟨cb, fb⟩ := hr2.struct.facts
  have hdp : p < r.l.length ∨ r.l.length ≤ p := by omega
  rcases hdp with hlt | hge
  · obtain ⟨y, hy⟩ : ∃ y, r.l[p]? = some y := ⟨r.l[p], List.getElem?_eq_getElem hlt⟩
    have HY := Lib.hid hy
    clear hy
    go_wp2_with fail
    refine E.wp_plan E.ext_pre 1000000 [(0, true), (1, true), (2, true), (3, true), (4, true), (5, true), (6, true), (7, true), (8, true), (15, true), (9, false), (10, true), (11, true), (12, true), (13, true), (14, false), (16, true), (17, true), (18, true)] (by kernel_rfl) (by kernel_rfl) ?_
    repeat (first | (refine E.plan_pure (by simp only [List.getElem?_toArray, List.getElem?_cons_succ, List.getElem?_cons_zero]; rfl) (by rfl) (fun K hK => ?_); (go_simp; try go_bits; try go_simp); refine hK _ ?_; clear hK K) | (refine E.plan_load (by simp only [List.getElem?_toArray, List.getElem?_cons_succ, List.getElem?_cons_zero]; rfl) (by rfl) (by rfl) (fun K hK => ?_); (go_simp; try go_bits; try go_simp); refine hK _ ?_; clear hK K) | (refine E.plan_skip (E.Ext.refl _) (by simp only [List.getElem?_toArray, List.getElem?_cons_succ, List.getElem?_cons_zero]; rfl) (by rfl) (fun K hK => ?_); (go_simp; try go_bits; try go_simp); refine hK _ ?_; clear hK K))
    refine E.plan_eff (by simp only [List.getElem?_toArray, List.getElem?_cons_succ, List.getElem?_cons_zero]; rfl) (by rfl) (fun K hK => ?_); (go_simp; try go_bits)
    refine (at_any b pb r p _ (hr2.struct.drew) hr.ok (by omega)).mono ?_; rintro e w3 ⟨rfl, hx3⟩; refine hK _ _ hx3 ?_; clear hK K
    have hr3 := (hr2.ext (E.Ext.drew _)).ext hx3
    have H13 := (H1.ext (E.Ext.drew _)).ext hx3
    have hE3 : E.Ext w w3 := (hE2.trans (E.Ext.drew _)).trans hx3
    obtain ⟨_, hb3, ps, hps1, hps, hpl⟩ := hr3.get
    obtain ⟨g, hg, A3, c3, hge, hgo, _⟩ := hpl p y HY.out
    have cps := hps.cell
    have cge := hge.cell
    repeat (first | (refine E.plan_pure (by simp only [List.getElem?_toArray, List.getElem?_cons_succ, List.getElem?_cons_zero]; rfl) (by rfl) (fun K hK => ?_); (go_simp; try go_bits; try go_simp); refine hK _ ?_; clear hK K) | (refine E.plan_load (by simp only [List.getElem?_toArray, List.getElem?_cons_succ, List.getElem?_cons_zero]; rfl) (by rfl) (by rfl) (fun K hK => ?_); (go_simp; try go_bits; try go_simp); refine hK _ ?_; clear hK K) | (refine E.plan_skip (E.Ext.refl _) (by simp only [List.getElem?_toArray, List.getElem?_cons_succ, List.getElem?_cons_zero]; rfl) (by rfl) (fun K hK => ?_); (go_simp; try go_bits; try go_simp); refine hK _ ?_; clear hK K))
    refine E.plan_eff (by simp only [List.getElem?_toArray, List.getElem?_cons_succ, List.getElem?_cons_zero]; rfl) (by rfl) (fun K hK => ?_); (go_simp; try go_bits)
    refine (of_any y A3 c3 _).mono ?_; rintro e w4 ⟨rfl, hx4⟩; dsimp only [Key.val, Entry.key]; refine hK _ _ hx4 ?_; clear hK K
    have hk1 := fun w' x y xs ys => guardKey w' x y xs ys
    have hE4 : E.Ext w w4 := hE3.trans hx4
    by_cases hkey : y.key = x.key
    · have hk2 := eqKey_yes hkey
      dsimp only [Key.val, Entry.key] at hk2
      repeat (first | (refine E.plan_pure (by simp only [List.getElem?_toArray, List.getElem?_cons_succ, List.getElem?_cons_zero]; rfl) (by rfl) (fun K hK => ?_); (go_simp; try go_bits; try go_simp); refine hK _ ?_; clear hK K) | (refine E.plan_load (by simp only [List.getElem?_toArray, List.getElem?_cons_succ, List.getElem?_cons_zero]; rfl) (by rfl) (by rfl) (fun K hK => ?_); (go_simp; try go_bits; try go_simp); refine hK _ ?_; clear hK K) | (refine E.plan_skip (E.Ext.refl _) (by simp only [List.getElem?_toArray, List.getElem?_cons_succ, List.getElem?_cons_zero]; rfl) (by rfl) (fun K hK => ?_); (go_simp; try go_bits; try go_simp); refine hK _ ?_; clear hK K))
      refine E.plan_nil ?_
      go_wp2_with fail
      go_ret3
      have hi : insert_ r.K r.l x = (0, 0, 7, r.l) := by
        unfold insert_
        rw [HP.out, HY.out, if_pos (by simp [hkey])]
      exact ⟨by rw [hi]; rfl, by rw [hi]; exact (hr.ext hE4).mono (fun _ _ h => Or.inl h), hE4.toS _, fun _ => hE4⟩
    · have hk2 := eqKey_no hkey
      dsimp only [Key.val, Entry.key] at hk2
      repeat (first | (refine E.plan_pure (by simp only [List.getElem?_toArray, List.getElem?_cons_succ, List.getElem?_cons_zero]; rfl) (by rfl) (fun K hK => ?_); (go_simp; try go_bits; try go_simp); refine hK _ ?_; clear hK K) | (refine E.plan_load (by simp only [List.getElem?_toArray, List.getElem?_cons_succ, List.getElem?_cons_zero]; rfl) (by rfl) (by rfl) (fun K hK => ?_); (go_simp; try go_bits; try go_simp); refine hK _ ?_; clear hK K) | (refine E.plan_skip (E.Ext.refl _) (by simp only [List.getElem?_toArray, List.getElem?_cons_succ, List.getElem?_cons_zero]; rfl) (by rfl) (fun K hK => ?_); (go_simp; try go_bits; try go_simp); refine hK _ ?_; clear hK K))
      refine E.plan_nil ?_
      have hno : ¬ (r.l[p]?).map Entry.key = some x.key := by rw [HY.out]; simpa using hkey
      have hET := hE4
      have HT1 := H13.ext hx4
      clear hk2 hk1
      have HNO := Lib.hid hno
      clear hno
      have hrT := hr.ext hET
      obtain ⟨cT, fT⟩ := hrT.struct.facts
      obtain ⟨cT1, fT1⟩ := HT1.facts
      by_cases hfull : r.l.length = r.K
      · have hfb : ((r.l.length : Int) == (r.K : Int)) = true := by simp [hfull]
        have HF := Lib.hid hfull
        clear hfull
        go_wp2_with fail
        refine E.wp_plan E.ext_pre 1000000 [(0, true), (1, true), (2, true), (3, true), (4, true), (5, true), (6, true), (7, true), (8, true), (9, true), (10, true)] (by kernel_rfl) (by kernel_rfl) ?_
        repeat (first | (refine E.plan_pure (by simp only [List.getElem?_toArray, List.getElem?_cons_succ, List.getElem?_cons_zero]; rfl) (by rfl) (fun K hK => ?_); (go_simp; try go_bits; try go_simp); refine hK _ ?_; clear hK K) | (refine E.plan_load (by simp only [List.getElem?_toArray, List.getElem?_cons_succ, List.getElem?_cons_zero]; rfl) (by rfl) (by rfl) (fun K hK => ?_); (go_simp; try go_bits; try go_simp); refine hK _ ?_; clear hK K) | (refine E.plan_skip (E.Ext.refl _) (by simp only [List.getElem?_toArray, List.getElem?_cons_succ, List.getElem?_cons_zero]; rfl) (by rfl) (fun K hK => ?_); (go_simp; try go_bits; try go_simp); refine hK _ ?_; clear hK K))
        refine E.plan_nil ?_
        go_wp2_with fail
        go_ret3
        have hi : insert_ r.K r.l x = (0, 0, 13, r.l) := by
          unfold insert_
          rw [HP.out, if_neg HNO.out, if_pos HF.out]
        exact ⟨by rw [hi]; rfl, by rw [hi]; exact (hrT.ext (E.Ext.drew _)).mono (fun _ _ h => Or.inl h), (hET.trans (E.Ext.drew _)).toS _, fun _ => hET.trans (E.Ext.drew _)⟩
      · have hfb : ((r.l.length : Int) == (r.K : Int)) = false := by simp; omega
        have hfl : r.l.length < r.K := by omega
        have HF := Lib.hid hfull
        clear hfull
        go_wp2_with fail
        refine E.wp_plan E.ext_pre 1000000 [(0, true), (1, true), (2, true), (3, true), (4, true), (5, true), (6, true), (7, true), (8, true), (9, true), (10, true)] (by kernel_rfl) (by kernel_rfl) ?_
        repeat (first | (refine E.plan_pure (by simp only [List.getElem?_toArray, List.getElem?_cons_succ, List.getElem?_cons_zero]; rfl) (by rfl) (fun K hK => ?_); (go_simp; try go_bits; try go_simp); refine hK _ ?_; clear hK K) | (refine E.plan_load (by simp only [List.getElem?_toArray, List.getElem?_cons_succ, List.getElem?_cons_zero]; rfl) (by rfl) (by rfl) (fun K hK => ?_); (go_simp; try go_bits; try go_simp); refine hK _ ?_; clear hK K) | (refine E.plan_skip (E.Ext.refl _) (by simp only [List.getElem?_toArray, List.getElem?_cons_succ, List.getElem?_cons_zero]; rfl) (by rfl) (fun K hK => ?_); (go_simp; try go_bits; try go_simp); refine hK _ ?_; clear hK K))
        refine E.plan_nil ?_
        go_wp2_with fail
        refine (copied_any x A c _ (hx.ext (hET.trans (E.Ext.drew _))) hl).mono ?_
        rintro e w5 ⟨A5, c5, rfl, hx5, ho5⟩
        dsimp only [Entry.val]
        have hE5 : E.Ext w w5 := (hET.trans (E.Ext.drew _)).trans hx5
        have hr5 := hr.ext hE5
        obtain ⟨cc5, ff5⟩ := (hr5.struct.alloc (.cells #[.int .i64 x.stamp, .int .i64 x.sensor, .int .i64 x.seq, .bool x.input, .slice A5 x.data.length c5] 30)).facts
        go_wp2_with fail
        have hE6 : E.Ext w (w5.alloc (.cells #[.int .i64 x.stamp, .int .i64 x.sensor, .int .i64 x.seq, .bool x.input, .slice A5 x.data.length c5] 30)) := hE5.trans (E.Ext.alloc _ _)
        have hr6 := hr.ext hE6
        have hN : E.Blk (w5.alloc (.cells #[.int .i64 x.stamp, .int .i64 x.sensor, .int .i64 x.seq, .bool x.input, .slice A5 x.data.length c5] 30)) w5.heap.size 30 _ := E.Blk.new _ _ _
        have hNo := own_ext ho5 (E.Ext.alloc w5 (.cells #[.int .i64 x.stamp, .int .i64 x.sensor, .int .i64 x.seq, .bool x.input, .slice A5 x.data.length c5] 30))
        generalize hw6 : w5.alloc (.cells #[.int .i64 x.stamp, .int .i64 x.sensor, .int .i64 x.seq, .bool x.input, .slice A5 x.data.length c5] 30) = w6 at *
        clear hw6
        generalize w5.heap.size = g6 at *
        obtain ⟨ok, hB6, ps, gp, hps1, hps, hpl⟩ := hr6
        have hbp : b ≠ pb := hB6.ne hps (by decide)
        go_loopw [10] (fun v wr => ∃ k : Nat, v = .int .i64 k ∧ p ≤ k ∧ k ≤ r.l.length ∧ E.ExtS (fun i => i = pb) w6 wr ∧ Shifted r.first r.K r.l.length k gp wr pb) (fun v _ => (intOf v).toNat - p)
        case atStart => exact ⟨r.l.length, rfl, hp, Nat.le_refl _, E.ExtS.refl _ _, ps, hps1, hps, fun j hj => ⟨fun h => (hpl j _ (List.getElem?_eq_getElem h)).1, fun h h' => by omega⟩⟩
        case round =>
          obtain ⟨k, rfl, hpk, hkl, hxs, ps', hps1', hps', hsh⟩ := hrel
          have HSH := Lib.hid hsh
          clear hsh
          have hBr : RingB wr b pb r := hB6.extS hxs hbp
          obtain ⟨cbr, fbr⟩ := hBr.facts
          have hposlt : (r.first + k) % r.K < ps'.size := by rw [hps1']; exact Nat.mod_lt _ (by omega)
          have hold : ps'[(r.first + k) % r.K]? = some (ps'[(r.first + k) % r.K]'hposlt) := Array.getElem?_eq_getElem hposlt
          generalize ps'[(r.first + k) % r.K]'hposlt = old at hold
          have HPS1 := Lib.hid hps1'
          clear hps1' hposlt
          by_cases hlt' : p < k
          · have hkm : ((k : Int) - 1) = ((k - 1 : Nat) : Int) := by omega
            have HKM := Lib.hid hkm
            clear hkm
            have hv := ((HSH.out (k - 1) (by omega)).1 (by omega))
            go_wp2_with fail
            refine (at_any b pb r k _ hBr ok (by omega)).mono ?_
            rintro e w7 ⟨rfl, hx7⟩
            go_wp2_with fail
            rw [HKM.out]
            refine (at_any b pb r (k - 1) _ (hBr.ext hx7) ok (by omega)).mono ?_
            rintro e w8 ⟨rfl, hx8⟩
            obtain ⟨cp8, fp8⟩ := ((hps'.ext hx7).ext hx8).facts
            go_wp2_with fail
            go_roundw
            case rel =>
              have hx78 := hx7.trans hx8
              exact ⟨k - 1, by go_num, by omega, by omega, ((hxs.trans (hx78.toS _)).set (p := ⟨pb, (r.first + k) % r.K, none⟩) (.inl rfl) _), shift_step ok.pos hkl (by omega) (hps'.ext hx78) HPS1.out HSH.out hfl⟩
            case measure => simp [intOf]; omega
          · have hkp : k = p := by omega
            subst hkp
            go_wp2_with fail
            refine (at_any b pb r k _ hBr ok (by omega)).mono ?_
            rintro e w7 ⟨rfl, hx7⟩
            obtain ⟨cp7, fp7⟩ := (hps'.ext hx7).facts
            obtain ⟨cb7, fb7⟩ := (hBr.ext hx7).facts
            go_wp2_with fail
            refine E.wp_plan E.ext_pre 1000000 [(0, true), (1, true), (2, true), (3, true), (4, true), (5, true), (6, true), (7, true), (8, true), (9, true), (10, true)] (by kernel_rfl) (by kernel_rfl) ?_
            repeat (first | (refine E.plan_pure (by simp only [List.getElem?_toArray, List.getElem?_cons_succ, List.getElem?_cons_zero]; rfl) (by rfl) (fun K hK => ?_); (go_simp; try go_bits; try go_simp); refine hK _ ?_; clear hK K) | (refine E.plan_load (by simp only [List.getElem?_toArray, List.getElem?_cons_succ, List.getElem?_cons_zero]; rfl) (by rfl) (by rfl) (fun K hK => ?_); (go_simp; try go_bits; try go_simp); refine hK _ ?_; clear hK K) | (refine E.plan_skip (E.Ext.refl _) (by simp only [List.getElem?_toArray, List.getElem?_cons_succ, List.getElem?_cons_zero]; rfl) (by rfl) (fun K hK => ?_); (go_simp; try go_bits; try go_simp); refine hK _ ?_; clear hK K))
            refine E.plan_nil ?_
            go_wp2_with fail
            go_ret3
            have hi : insert_ r.K r.l x = ((k : Int), (r.l.length : Int) - k, 0, r.l.take k ++ x :: r.l.drop k) := by
              unfold insert_
              rw [HP.out, if_neg HNO.out, if_neg HF.out]
            refine ⟨by rw [hi]; rfl, ?_, ?_, fun h => by rw [hi] at h; simp at h⟩
            · rw [hi]
              exact (ring_inserted ok hfl hp hBr hps' hps hx7 HPS1.out HSH.out (fun i y hy => (hpl i y hy).2.mono (F' := fun k => F k ∨ w.heap.size ≤ k) (fun _ _ h => Or.inl h)) hxs hN hNo (fun k hk => Or.inr (Nat.le_trans (hET.trans (E.Ext.drew _)).size hk))).ext (E.Ext.drew _)
            · exact E.ExtS.trans (E.ExtS.set (E.ExtS.set (((hE6.toS (fun k => k = b ∨ k = pb)).trans (hxs.mono (fun k _ h => Or.inr h))).trans (hx7.toS _)) (Or.inl (Or.inr rfl)) _) (Or.inl (Or.inl rfl)) _) ((E.Ext.drew _).toS _)
  · have hge' : ¬ p < r.l.length := by omega
    go_wp2_with fail
    refine E.wp_plan E.ext_pre 1000000 [(0, true), (1, true), (2, true), (3, true), (4, true), (5, true), (6, true), (7, true), (8, true), (15, true), (9, false), (10, true), (11, true), (12, true), (13, true), (14, false), (16, true), (17, true), (18, true)] (by kernel_rfl) (by kernel_rfl) ?_
    repeat (first | (refine E.plan_pure (by simp only [List.getElem?_toArray, List.getElem?_cons_succ, List.getElem?_cons_zero]; rfl) (by rfl) (fun K hK => ?_); (go_simp; try go_bits; try go_simp); refine hK _ ?_; clear hK K) | (refine E.plan_load (by simp only [List.getElem?_toArray, List.getElem?_cons_succ, List.getElem?_cons_zero]; rfl) (by rfl) (by rfl) (fun K hK => ?_); (go_simp; try go_bits; try go_simp); refine hK _ ?_; clear hK K) | (refine E.plan_skip (E.Ext.refl _) (by simp only [List.getElem?_toArray, List.getElem?_cons_succ, List.getElem?_cons_zero]; rfl) (by rfl) (fun K hK => ?_); (go_simp; try go_bits; try go_simp); refine hK _ ?_; clear hK K))
    refine E.plan_nil ?_
    have hno : ¬ (r.l[p]?).map Entry.key = some x.key := by rw [List.getElem?_eq_none hge]; simp
    have hET := hE2.trans (E.Ext.drew _)
    have HT1 := H1.ext (E.Ext.drew _)
    clear hge hge'
    have HNO := Lib.hid hno
    clear hno
    have hrT := hr.ext hET
    obtain ⟨cT, fT⟩ := hrT.struct.facts
    obtain ⟨cT1, fT1⟩ := HT1.facts
    by_cases hfull : r.l.length = r.K
    · have hfb : ((r.l.length : Int) == (r.K : Int)) = true := by simp [hfull]
      have HF := Lib.hid hfull
      clear hfull
      go_wp2_with fail
      refine E.wp_plan E.ext_pre 1000000 [(0, true), (1, true), (2, true), (3, true), (4, true), (5, true), (6, true), (7, true), (8, true), (9, true), (10, true)] (by kernel_rfl) (by kernel_rfl) ?_
      repeat (first | (refine E.plan_pure (by simp only [List.getElem?_toArray, List.getElem?_cons_succ, List.getElem?_cons_zero]; rfl) (by rfl) (fun K hK => ?_); (go_simp; try go_bits; try go_simp); refine hK _ ?_; clear hK K) | (refine E.plan_load (by simp only [List.getElem?_toArray, List.getElem?_cons_succ, List.getElem?_cons_zero]; rfl) (by rfl) (by rfl) (fun K hK => ?_); (go_simp; try go_bits; try go_simp); refine hK _ ?_; clear hK K) | (refine E.plan_skip (E.Ext.refl _) (by simp only [List.getElem?_toArray, List.getElem?_cons_succ, List.getElem?_cons_zero]; rfl) (by rfl) (fun K hK => ?_); (go_simp; try go_bits; try go_simp); refine hK _ ?_; clear hK K))
      refine E.plan_nil ?_
      go_wp2_with fail
      go_ret3
      have hi : insert_ r.K r.l x = (0, 0, 13, r.l) := by
        unfold insert_
        rw [HP.out, if_neg HNO.out, if_pos HF.out]
      exact ⟨by rw [hi]; rfl, by rw [hi]; exact (hrT.ext (E.Ext.drew _)).mono (fun _ _ h => Or.inl h), (hET.trans (E.Ext.drew _)).toS _, fun _ => hET.trans (E.Ext.drew _)⟩
    · have hfb : ((r.l.length : Int) == (r.K : Int)) = false := by simp; omega
      have hfl : r.l.length < r.K := by omega
      have HF := Lib.hid hfull
      clear hfull
      go_wp2_with fail
      refine E.wp_plan E.ext_pre 1000000 [(0, true), (1, true), (2, true), (3, true), (4, true), (5, true), (6, true), (7, true), (8, true), (9, true), (10, true)] (by kernel_rfl) (by kernel_rfl) ?_
      repeat (first | (refine E.plan_pure (by simp only [List.getElem?_toArray, List.getElem?_cons_succ, List.getElem?_cons_zero]; rfl) (by rfl) (fun K hK => ?_); (go_simp; try go_bits; try go_simp); refine hK _ ?_; clear hK K) | (refine E.plan_load (by simp only [List.getElem?_toArray, List.getElem?_cons_succ, List.getElem?_cons_zero]; rfl) (by rfl) (by rfl) (fun K hK => ?_); (go_simp; try go_bits; try go_simp); refine hK _ ?_; clear hK K) | (refine E.plan_skip (E.Ext.refl _) (by simp only [List.getElem?_toArray, List.getElem?_cons_succ, List.getElem?_cons_zero]; rfl) (by rfl) (fun K hK => ?_); (go_simp; try go_bits; try go_simp); refine hK _ ?_; clear hK K))
      refine E.plan_nil ?_
      go_wp2_with fail
      refine (copied_any x A c _ (hx.ext (hET.trans (E.Ext.drew _))) hl).mono ?_
      rintro e w5 ⟨A5, c5, rfl, hx5, ho5⟩
      dsimp only [Entry.val]
      have hE5 : E.Ext w w5 := (hET.trans (E.Ext.drew _)).trans hx5
      have hr5 := hr.ext hE5
      obtain ⟨cc5, ff5⟩ := (hr5.struct.alloc (.cells #[.int .i64 x.stamp, .int .i64 x.sensor, .int .i64 x.seq, .bool x.input, .slice A5 x.data.length c5] 30)).facts
      go_wp2_with fail
      have hE6 : E.Ext w (w5.alloc (.cells #[.int .i64 x.stamp, .int .i64 x.sensor, .int .i64 x.seq, .bool x.input, .slice A5 x.data.length c5] 30)) := hE5.trans (E.Ext.alloc _ _)
      have hr6 := hr.ext hE6
      have hN : E.Blk (w5.alloc (.cells #[.int .i64 x.stamp, .int .i64 x.sensor, .int .i64 x.seq, .bool x.input, .slice A5 x.data.length c5] 30)) w5.heap.size 30 _ := E.Blk.new _ _ _
      have hNo := own_ext ho5 (E.Ext.alloc w5 (.cells #[.int .i64 x.stamp, .int .i64 x.sensor, .int .i64 x.seq, .bool x.input, .slice A5 x.data.length c5] 30))
      generalize hw6 : w5.alloc (.cells #[.int .i64 x.stamp, .int .i64 x.sensor, .int .i64 x.seq, .bool x.input, .slice A5 x.data.length c5] 30) = w6 at *
      clear hw6
      generalize w5.heap.size = g6 at *
      obtain ⟨ok, hB6, ps, gp, hps1, hps, hpl⟩ := hr6
      have hbp : b ≠ pb := hB6.ne hps (by decide)
      go_loopw [10] (fun v wr => ∃ k : Nat, v = .int .i64 k ∧ p ≤ k ∧ k ≤ r.l.length ∧ E.ExtS (fun i => i = pb) w6 wr ∧ Shifted r.first r.K r.l.length k gp wr pb) (fun v _ => (intOf v).toNat - p)
      case atStart => exact ⟨r.l.length, rfl, hp, Nat.le_refl _, E.ExtS.refl _ _, ps, hps1, hps, fun j hj => ⟨fun h => (hpl j _ (List.getElem?_eq_getElem h)).1, fun h h' => by omega⟩⟩
      case round =>
        obtain ⟨k, rfl, hpk, hkl, hxs, ps', hps1', hps', hsh⟩ := hrel
        have HSH := Lib.hid hsh
        clear hsh
        have hBr : RingB wr b pb r := hB6.extS hxs hbp
        obtain ⟨cbr, fbr⟩ := hBr.facts
        have hposlt : (r.first + k) % r.K < ps'.size := by rw [hps1']; exact Nat.mod_lt _ (by omega)
        have hold : ps'[(r.first + k) % r.K]? = some (ps'[(r.first + k) % r.K]'hposlt) := Array.getElem?_eq_getElem hposlt
        generalize ps'[(r.first + k) % r.K]'hposlt = old at hold
        have HPS1 := Lib.hid hps1'
        clear hps1' hposlt
        by_cases hlt' : p < k
        · have hkm : ((k : Int) - 1) = ((k - 1 : Nat) : Int) := by omega
          have HKM := Lib.hid hkm
          clear hkm
          have hv := ((HSH.out (k - 1) (by omega)).1 (by omega))
          go_wp2_with fail
          refine (at_any b pb r k _ hBr ok (by omega)).mono ?_
          rintro e w7 ⟨rfl, hx7⟩
          go_wp2_with fail
          rw [HKM.out]
          refine (at_any b pb r (k - 1) _ (hBr.ext hx7) ok (by omega)).mono ?_
          rintro e w8 ⟨rfl, hx8⟩
          obtain ⟨cp8, fp8⟩ := ((hps'.ext hx7).ext hx8).facts
          go_wp2_with fail
          go_roundw
          case rel =>
            have hx78 := hx7.trans hx8
            exact ⟨k - 1, by go_num, by omega, by omega, ((hxs.trans (hx78.toS _)).set (p := ⟨pb, (r.first + k) % r.K, none⟩) (.inl rfl) _), shift_step ok.pos hkl (by omega) (hps'.ext hx78) HPS1.out HSH.out hfl⟩
          case measure => simp [intOf]; omega
        · have hkp : k = p := by omega
          subst hkp
          go_wp2_with fail
          refine (at_any b pb r k _ hBr ok (by omega)).mono ?_
          rintro e w7 ⟨rfl, hx7⟩
          obtain ⟨cp7, fp7⟩ := (hps'.ext hx7).facts
          obtain ⟨cb7, fb7⟩ := (hBr.ext hx7).facts
          go_wp2_with fail
          refine E.wp_plan E.ext_pre 1000000 [(0, true), (1, true), (2, true), (3, true), (4, true), (5, true), (6, true), (7, true), (8, true), (9, true), (10, true)] (by kernel_rfl) (by kernel_rfl) ?_
          repeat (first | (refine E.plan_pure (by simp only [List.getElem?_toArray, List.getElem?_cons_succ, List.getElem?_cons_zero]; rfl) (by rfl) (fun K hK => ?_); (go_simp; try go_bits; try go_simp); refine hK _ ?_; clear hK K) | (refine E.plan_load (by simp only [List.getElem?_toArray, List.getElem?_cons_succ, List.getElem?_cons_zero]; rfl) (by rfl) (by rfl) (fun K hK => ?_); (go_simp; try go_bits; try go_simp); refine hK _ ?_; clear hK K) | (refine E.plan_skip (E.Ext.refl _) (by simp only [List.getElem?_toArray, List.getElem?_cons_succ, List.getElem?_cons_zero]; rfl) (by rfl) (fun K hK => ?_); (go_simp; try go_bits; try go_simp); refine hK _ ?_; clear hK K))
          refine E.plan_nil ?_
          go_wp2_with fail
          go_ret3
          have hi : insert_ r.K r.l x = ((k : Int), (r.l.length : Int) - k, 0, r.l.take k ++ x :: r.l.drop k) := by
            unfold insert_
            rw [HP.out, if_neg HNO.out, if_neg HF.out]
          refine ⟨by rw [hi]; rfl, ?_, ?_, fun h => by rw [hi] at h; simp at h⟩
          · rw [hi]
            exact (ring_inserted ok hfl hp hBr hps' hps hx7 HPS1.out HSH.out (fun i y hy => (hpl i y hy).2.mono (F' := fun k => F k ∨ w.heap.size ≤ k) (fun _ _ h => Or.inl h)) hxs hN hNo (fun k hk => Or.inr (Nat.le_trans (hET.trans (E.Ext.drew _)).size hk))).ext (E.Ext.drew _)
          · exact E.ExtS.trans (E.ExtS.set (E.ExtS.set (((hE6.toS (fun k => k = b ∨ k = pb)).trans (hxs.mono (fun k _ h => Or.inr h))).trans (hx7.toS _)) (Or.inl (Or.inr rfl)) _) (Or.inl (Or.inl rfl)) _) ((E.Ext.drew _).toS _)
end Go.Proofs.Ytjomgaafnpbmhaa.G
