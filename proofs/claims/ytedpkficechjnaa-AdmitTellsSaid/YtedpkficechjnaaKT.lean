/- slices.BinarySearchFunc over keys that rise; entry.Find. -/
import Derived.Test.YtedpkficechjnaaKS
namespace Go.Proofs.Ytedpkficechjnaa.KT
open Go.RowKit
open Go.Proofs.Ytedpkficechjnaa
open Go.Proofs.Ytedpkficechjnaa.KA Go.Proofs.Ytedpkficechjnaa.K Go.Proofs.Ytedpkficechjnaa.KB Go.Proofs.Ytedpkficechjnaa.KI Go.Proofs.Ytedpkficechjnaa.KQ Go.Proofs.Ytedpkficechjnaa.S Go.Proofs.Ytedpkficechjnaa.KR Go.Proofs.Ytedpkficechjnaa.KS
set_option linter.unusedVariables false
set_option linter.unusedSimpArgs false

theorem tw_eq {α : Type} {q : α → Bool} : ∀ {l : List α} {r : Nat}, r ≤ l.length → (∀ (i : Nat) x, l[i]? = some x → (q x = false ↔ r ≤ i)) → (l.takeWhile q).length = r
  | [], r, hr, h => by simp at hr ⊢; omega
  | a :: l, r, hr, h => by
    have h0 := h 0 a rfl
    cases r with
    | zero =>
      have : q a = false := h0.2 (Nat.le_refl _)
      simp [List.takeWhile, this]
    | succ r =>
      have h1 : q a = true := by
        cases hq : q a with
        | true => rfl
        | false => have := h0.1 hq; omega
      have ih := tw_eq (q := q) (l := l) (r := r) (by simpa using hr) (fun i x hx => by
        have := h (i + 1) x (by simpa using hx)
        rw [this]
        omega)
      simp [List.takeWhile, h1, ih]
theorem tw_lt {α : Type} {q : α → Bool} : ∀ {l : List α} {i : Nat} {x : α}, l[i]? = some x → i < (l.takeWhile q).length → q x = true
  | [], i, x, h, hi => by simp at h
  | a :: l, i, x, h, hi => by
    cases hq : q a with
    | false => simp [List.takeWhile, hq] at hi
    | true =>
      cases i with
      | zero => simp at h; subst h; exact hq
      | succ i => exact tw_lt (l := l) (i := i) (by simpa using h) (by simpa [List.takeWhile, hq] using hi)
theorem tw_at {α : Type} {q : α → Bool} : ∀ {l : List α} {x : α}, l[(l.takeWhile q).length]? = some x → q x = false
  | [], x, h => by simp at h
  | a :: l, x, h => by
    cases hq : q a with
    | true =>
      simp [List.takeWhile, hq] at h
      exact tw_at (l := l) h
    | false =>
      simp [List.takeWhile, hq] at h
      subst h
      exact hq
theorem tw_le {α : Type} (q : α → Bool) (l : List α) : (l.takeWhile q).length ≤ l.length := (List.takeWhile_prefix q).length_le

theorem cmp_zero (a b : Key) : a.cmp b = 0 ↔ a = b := by
  obtain ⟨a1, a2, a3⟩ := a
  obtain ⟨b1, b2, b3⟩ := b
  unfold Key.cmp or3
  simp only [Key.mk.injEq]
  rcases cmpI_cases a1 b1 with ⟨h1, k1⟩ | ⟨h1, k1⟩ | ⟨h1, k1⟩ <;> rcases cmpI_cases a2 b2 with ⟨h2, k2⟩ | ⟨h2, k2⟩ | ⟨h2, k2⟩ <;> rcases cmpI_cases a3 b3 with ⟨h3, k3⟩ | ⟨h3, k3⟩ | ⟨h3, k3⟩ <;> simp [h1, h2, h3] <;> omega

def kpos (l : List Key) (k : Key) : Nat := (l.takeWhile (fun x => x.lt k)).length
theorem up_mono {l : List Key} (hu : Up l) (k : Key) {i j : Nat} {x y : Key} (hij : i ≤ j) (hx : l[i]? = some x) (hy : l[j]? = some y) (h : y.lt k = true) : x.lt k = true := by
  rcases Nat.eq_or_lt_of_le hij with e | e
  · subst e
    rw [hx] at hy
    cases hy
    exact h
  · exact lt_trans (hu i j x y e hx hy) h
def BI (l : List Key) (k : Key) (i j : Nat) : Prop := i ≤ j ∧ j ≤ l.length ∧ (∀ (n : Nat) x, n < i → l[n]? = some x → x.lt k = true) ∧ (∀ (n : Nat) x, j ≤ n → l[n]? = some x → x.lt k = false)
theorem bi_end {l : List Key} {k : Key} {i : Nat} (h : BI l k i i) : kpos l k = i := by
  obtain ⟨_, h1, h2, h3⟩ := h
  refine tw_eq h1 (fun n x hx => ?_)
  constructor
  · intro hq
    rcases Nat.lt_or_ge n i with h4 | h4
    · have := h2 n x h4 hx
      rw [hq] at this
      cases this
    · exact h4
  · exact fun h4 => h3 n x h4 hx

set_option maxHeartbeats 1600000 in
theorem bsearch_any (l : List Key) (A : Option Addr) (c : Nat) (k : Key) (w : World) (h : Sl w 3 A l.length c (keyCells l)) (hl : l.length ≤ 1099511627776) (hu : Up l) :
    Calls Try.prog 54 #[.slice A l.length c, k.val, .func (.func 46) #[] #[]] w fun e w' => e = .returned (.tuple #[.int .i64 (kpos l k), .bool (decide (l[kpos l k]? = some k))]) ∧ E.Ext w w' := by
  have HU := Lib.hid hu
  clear hu
  have h0 := h.ext (E.Ext.alloc w (.cells #[.int .i64 k.stamp, .int .i64 k.sensor, .int .i64 k.seq] 28))
  have T0 := E.Blk.new w 28 #[.int .i64 k.stamp, .int .i64 k.sensor, .int .i64 k.seq]
  unfold Key.val
  go_enter Try.func54, Try.ntmps54
  go_wp2
  go_loopw [9, 10, 11] (fun a b _ wr => ∃ i j : Nat, a = .int .i64 i ∧ b = .int .i64 j ∧ BI l k i j ∧ E.Ext (w.alloc (.cells #[.int .i64 k.stamp, .int .i64 k.sensor, .int .i64 k.seq] 28)) wr) (fun a b _ _ => (intOf b - intOf a).toNat)
  case atStart => exact ⟨0, l.length, rfl, rfl, ⟨Nat.zero_le _, Nat.le_refl _, fun n x hn => by omega, fun n x hn hx => by have := (List.getElem?_eq_some_iff.1 hx).1; omega⟩, E.Ext.refl _⟩
  case round =>
    obtain ⟨i, j, rfl, rfl, hs, hx⟩ := hrel
    have HS := Lib.hid hs
    have hij : i ≤ j := hs.1
    have hjn : j ≤ l.length := hs.2.1
    clear hs
    by_cases hlt : i < j
    · have em : ((i : Int) + (j : Int)) / 2 = (((i + j) / 2 : Nat) : Int) := by omega
      have EM := Lib.hid em
      clear em
      have hm1 : i ≤ (i + j) / 2 := by omega
      have hm2 : (i + j) / 2 < j := by omega
      generalize hm : (i + j) / 2 = m at *
      clear hm
      have hml : m < l.length := by omega
      obtain ⟨b, o, rfl, k0, k1, k2⟩ := key_at (h0.ext hx) (k := m) hml
      have T1 := T0.ext hx
      obtain ⟨cT, fT⟩ := T1.facts
      have hlm : l[m]? = some l[m] := List.getElem?_eq_getElem hml
      have HLM := Lib.hid hlm
      clear hlm
      by_cases hcmp : (l[m]).cmp k < 0
      · have hq : (l[m]).lt k = true := by unfold Key.lt; simpa using hcmp
        have HQ := Lib.hid hq
        clear hq
        go_wp2_with fail
        rw [EM.out]
        refine E.wp_plan E.ext_pre 1000000 [(0, true), (1, true), (2, true), (3, true), (4, true), (5, true), (6, false), (7, true)] (by kernel_rfl) (by kernel_rfl) ?_
        repeat (first | (refine E.plan_pure (by simp only [List.getElem?_toArray, List.getElem?_cons_succ, List.getElem?_cons_zero]; rfl) (by rfl) (fun K hK => ?_); (go_simp; try go_bits; try go_simp); refine hK _ ?_; clear hK K) | (refine E.plan_load (by simp only [List.getElem?_toArray, List.getElem?_cons_succ, List.getElem?_cons_zero]; rfl) (by rfl) (by rfl) (fun K hK => ?_); (go_simp; try go_bits; try go_simp); refine hK _ ?_; clear hK K) | (refine E.plan_skip (E.Ext.refl _) (by simp only [List.getElem?_toArray, List.getElem?_cons_succ, List.getElem?_cons_zero]; rfl) (by rfl) (fun K hK => ?_); (go_simp; try go_bits; try go_simp); refine hK _ ?_; clear hK K))
        refine E.plan_eff (by simp only [List.getElem?_toArray, List.getElem?_cons_succ, List.getElem?_cons_zero]; rfl) (by rfl) (fun K hK => ?_); (go_simp; try go_bits)
        refine (order_any (l[m]) k _).mono ?_; rintro e w1 ⟨rfl, hx1⟩; refine hK _ _ hx1 ?_; clear hK K
        repeat (first | (refine E.plan_pure (by simp only [List.getElem?_toArray, List.getElem?_cons_succ, List.getElem?_cons_zero]; rfl) (by rfl) (fun K hK => ?_); (go_simp; try go_bits; try go_simp); refine hK _ ?_; clear hK K) | (refine E.plan_load (by simp only [List.getElem?_toArray, List.getElem?_cons_succ, List.getElem?_cons_zero]; rfl) (by rfl) (by rfl) (fun K hK => ?_); (go_simp; try go_bits; try go_simp); refine hK _ ?_; clear hK K) | (refine E.plan_skip (E.Ext.refl _) (by simp only [List.getElem?_toArray, List.getElem?_cons_succ, List.getElem?_cons_zero]; rfl) (by rfl) (fun K hK => ?_); (go_simp; try go_bits; try go_simp); refine hK _ ?_; clear hK K))
        refine E.plan_nil ?_
        go_wp2_with fail
        go_roundw
        case rel => exact ⟨m + 1, j, by go_num, rfl, ⟨by omega, hjn, fun n x hn hx' => up_mono HU.out k (by omega) hx' HLM.out HQ.out, HS.out.2.2.2⟩, (hx.trans (E.Ext.drew _)).trans hx1⟩
        case measure => simp [intOf]; omega
      · have hq : (l[m]).lt k = false := by unfold Key.lt; simpa using hcmp
        have HQ := Lib.hid hq
        clear hq
        go_wp2_with fail
        rw [EM.out]
        refine E.wp_plan E.ext_pre 1000000 [(0, true), (1, true), (2, true), (3, true), (4, true), (5, true), (6, false), (7, true)] (by kernel_rfl) (by kernel_rfl) ?_
        repeat (first | (refine E.plan_pure (by simp only [List.getElem?_toArray, List.getElem?_cons_succ, List.getElem?_cons_zero]; rfl) (by rfl) (fun K hK => ?_); (go_simp; try go_bits; try go_simp); refine hK _ ?_; clear hK K) | (refine E.plan_load (by simp only [List.getElem?_toArray, List.getElem?_cons_succ, List.getElem?_cons_zero]; rfl) (by rfl) (by rfl) (fun K hK => ?_); (go_simp; try go_bits; try go_simp); refine hK _ ?_; clear hK K) | (refine E.plan_skip (E.Ext.refl _) (by simp only [List.getElem?_toArray, List.getElem?_cons_succ, List.getElem?_cons_zero]; rfl) (by rfl) (fun K hK => ?_); (go_simp; try go_bits; try go_simp); refine hK _ ?_; clear hK K))
        refine E.plan_eff (by simp only [List.getElem?_toArray, List.getElem?_cons_succ, List.getElem?_cons_zero]; rfl) (by rfl) (fun K hK => ?_); (go_simp; try go_bits)
        refine (order_any (l[m]) k _).mono ?_; rintro e w1 ⟨rfl, hx1⟩; refine hK _ _ hx1 ?_; clear hK K
        repeat (first | (refine E.plan_pure (by simp only [List.getElem?_toArray, List.getElem?_cons_succ, List.getElem?_cons_zero]; rfl) (by rfl) (fun K hK => ?_); (go_simp; try go_bits; try go_simp); refine hK _ ?_; clear hK K) | (refine E.plan_load (by simp only [List.getElem?_toArray, List.getElem?_cons_succ, List.getElem?_cons_zero]; rfl) (by rfl) (by rfl) (fun K hK => ?_); (go_simp; try go_bits; try go_simp); refine hK _ ?_; clear hK K) | (refine E.plan_skip (E.Ext.refl _) (by simp only [List.getElem?_toArray, List.getElem?_cons_succ, List.getElem?_cons_zero]; rfl) (by rfl) (fun K hK => ?_); (go_simp; try go_bits; try go_simp); refine hK _ ?_; clear hK K))
        refine E.plan_nil ?_
        go_wp2_with fail
        go_roundw
        case rel => exact ⟨i, m, rfl, rfl, ⟨by omega, by omega, HS.out.2.2.1, fun n x hn hx' => by
          cases hxk : x.lt k with
          | false => rfl
          | true =>
            have := up_mono HU.out k hn HLM.out hx' hxk
            rw [HQ.out] at this
            cases this⟩, (hx.trans (E.Ext.drew _)).trans hx1⟩
        case measure => simp [intOf]; omega
    · obtain rfl : i = j := by omega
      have hp := bi_end HS.out
      have HP := Lib.hid hp
      clear hp
      clear hlt
      have T1 := T0.ext hx
      obtain ⟨cT, fT⟩ := (T1.drew).facts
      by_cases hil : i < l.length
      · obtain ⟨b, o, rfl, k0, k1, k2⟩ := key_at (h0.ext hx) (k := i) hil
        have hli : l[i]? = some l[i] := List.getElem?_eq_getElem hil
        have HLI := Lib.hid hli
        clear hli
        by_cases heq : l[i] = k
        · have hz : ((l[i]).cmp k == 0) = true := by rw [beq_iff_eq, cmp_zero]; exact heq
          have HE := Lib.hid heq
          clear heq
          go_wp2_with fail
          refine E.wp_plan E.ext_pre 1000000 [(0, true), (1, true), (2, true), (3, true), (4, true), (5, true), (6, true), (7, true), (8, true), (9, true), (10, true), (11, false), (12, true), (13, true), (14, true), (15, true)] (by kernel_rfl) (by kernel_rfl) ?_
          repeat (first | (refine E.plan_pure (by simp only [List.getElem?_toArray, List.getElem?_cons_succ, List.getElem?_cons_zero]; rfl) (by rfl) (fun K hK => ?_); (go_simp; try go_bits; try go_simp); refine hK _ ?_; clear hK K) | (refine E.plan_load (by simp only [List.getElem?_toArray, List.getElem?_cons_succ, List.getElem?_cons_zero]; rfl) (by rfl) (by rfl) (fun K hK => ?_); (go_simp; try go_bits; try go_simp); refine hK _ ?_; clear hK K) | (refine E.plan_skip (E.Ext.refl _) (by simp only [List.getElem?_toArray, List.getElem?_cons_succ, List.getElem?_cons_zero]; rfl) (by rfl) (fun K hK => ?_); (go_simp; try go_bits; try go_simp); refine hK _ ?_; clear hK K))
          refine E.plan_eff (by simp only [List.getElem?_toArray, List.getElem?_cons_succ, List.getElem?_cons_zero]; rfl) (by rfl) (fun K hK => ?_); (go_simp; try go_bits)
          refine (order_any (l[i]) k _).mono ?_; rintro e w1 ⟨rfl, hx1⟩; refine hK _ _ hx1 ?_; clear hK K
          repeat (first | (refine E.plan_pure (by simp only [List.getElem?_toArray, List.getElem?_cons_succ, List.getElem?_cons_zero]; rfl) (by rfl) (fun K hK => ?_); (go_simp; try go_bits; try go_simp); refine hK _ ?_; clear hK K) | (refine E.plan_load (by simp only [List.getElem?_toArray, List.getElem?_cons_succ, List.getElem?_cons_zero]; rfl) (by rfl) (by rfl) (fun K hK => ?_); (go_simp; try go_bits; try go_simp); refine hK _ ?_; clear hK K) | (refine E.plan_skip (E.Ext.refl _) (by simp only [List.getElem?_toArray, List.getElem?_cons_succ, List.getElem?_cons_zero]; rfl) (by rfl) (fun K hK => ?_); (go_simp; try go_bits; try go_simp); refine hK _ ?_; clear hK K))
          refine E.plan_nil ?_
          go_wp2_with fail
          go_ret2
          exact ⟨by rw [HP.out, HLI.out, HE.out]; simp, ((E.Ext.alloc _ _).trans hx).trans ((E.Ext.drew _).trans hx1)⟩
        · have hz : ((l[i]).cmp k == 0) = false := by
            rw [beq_eq_false_iff_ne, ne_eq, cmp_zero]; exact heq
          have HE := Lib.hid heq
          clear heq
          go_wp2_with fail
          refine E.wp_plan E.ext_pre 1000000 [(0, true), (1, true), (2, true), (3, true), (4, true), (5, true), (6, true), (7, true), (8, true), (9, true), (10, true), (11, false), (12, true), (13, true), (14, true), (15, true)] (by kernel_rfl) (by kernel_rfl) ?_
          repeat (first | (refine E.plan_pure (by simp only [List.getElem?_toArray, List.getElem?_cons_succ, List.getElem?_cons_zero]; rfl) (by rfl) (fun K hK => ?_); (go_simp; try go_bits; try go_simp); refine hK _ ?_; clear hK K) | (refine E.plan_load (by simp only [List.getElem?_toArray, List.getElem?_cons_succ, List.getElem?_cons_zero]; rfl) (by rfl) (by rfl) (fun K hK => ?_); (go_simp; try go_bits; try go_simp); refine hK _ ?_; clear hK K) | (refine E.plan_skip (E.Ext.refl _) (by simp only [List.getElem?_toArray, List.getElem?_cons_succ, List.getElem?_cons_zero]; rfl) (by rfl) (fun K hK => ?_); (go_simp; try go_bits; try go_simp); refine hK _ ?_; clear hK K))
          refine E.plan_eff (by simp only [List.getElem?_toArray, List.getElem?_cons_succ, List.getElem?_cons_zero]; rfl) (by rfl) (fun K hK => ?_); (go_simp; try go_bits)
          refine (order_any (l[i]) k _).mono ?_; rintro e w1 ⟨rfl, hx1⟩; refine hK _ _ hx1 ?_; clear hK K
          repeat (first | (refine E.plan_pure (by simp only [List.getElem?_toArray, List.getElem?_cons_succ, List.getElem?_cons_zero]; rfl) (by rfl) (fun K hK => ?_); (go_simp; try go_bits; try go_simp); refine hK _ ?_; clear hK K) | (refine E.plan_load (by simp only [List.getElem?_toArray, List.getElem?_cons_succ, List.getElem?_cons_zero]; rfl) (by rfl) (by rfl) (fun K hK => ?_); (go_simp; try go_bits; try go_simp); refine hK _ ?_; clear hK K) | (refine E.plan_skip (E.Ext.refl _) (by simp only [List.getElem?_toArray, List.getElem?_cons_succ, List.getElem?_cons_zero]; rfl) (by rfl) (fun K hK => ?_); (go_simp; try go_bits; try go_simp); refine hK _ ?_; clear hK K))
          refine E.plan_nil ?_
          go_wp2_with fail
          go_ret2
          exact ⟨by rw [HP.out, HLI.out]; simp [HE.out], ((E.Ext.alloc _ _).trans hx).trans ((E.Ext.drew _).trans hx1)⟩
      · have hli : l[i]? = none := List.getElem?_eq_none (by omega)
        have HLI := Lib.hid hli
        clear hli
        go_wp2_with fail
        refine E.wp_plan E.ext_pre 1000000 [(0, true), (1, true), (2, true), (3, true), (4, true), (5, true), (6, true), (7, true), (8, true), (9, true), (10, true), (11, false), (12, true), (13, true), (14, true), (15, true)] (by kernel_rfl) (by kernel_rfl) ?_
        repeat (first | (refine E.plan_pure (by simp only [List.getElem?_toArray, List.getElem?_cons_succ, List.getElem?_cons_zero]; rfl) (by rfl) (fun K hK => ?_); (go_simp; try go_bits; try go_simp); refine hK _ ?_; clear hK K) | (refine E.plan_load (by simp only [List.getElem?_toArray, List.getElem?_cons_succ, List.getElem?_cons_zero]; rfl) (by rfl) (by rfl) (fun K hK => ?_); (go_simp; try go_bits; try go_simp); refine hK _ ?_; clear hK K) | (refine E.plan_skip (E.Ext.refl _) (by simp only [List.getElem?_toArray, List.getElem?_cons_succ, List.getElem?_cons_zero]; rfl) (by rfl) (fun K hK => ?_); (go_simp; try go_bits; try go_simp); refine hK _ ?_; clear hK K))
        refine E.plan_nil ?_
        go_wp2_with fail
        go_ret2
        exact ⟨by rw [HP.out, HLI.out]; simp, ((E.Ext.alloc _ _).trans hx).trans (E.Ext.drew _)⟩

/-- Where a key stands. -/
noncomputable def findK (l : List Key) (k : Key) : Nat × Bool := open Classical in if Up l then (kpos l k, decide (l[kpos l k]? = some k)) else (0, false)
theorem findK_up {l : List Key} (h : Up l) (k : Key) : findK l k = (kpos l k, decide (l[kpos l k]? = some k)) := if_pos h
theorem findK_no {l : List Key} (h : ¬ Up l) (k : Key) : findK l k = (0, false) := if_neg h
set_option maxHeartbeats 400000 in
theorem find_up (l : List Key) (A : Option Addr) (c : Nat) (k : Key) (w : World) (h : Sl w 3 A l.length c (keyCells l)) (hl : l.length ≤ 1099511627776) (hu : Up l) :
    Calls Try.prog 31 #[.slice A l.length c, k.val] w fun e w' => e = .returned (.tuple #[.int .i64 (kpos l k), .bool (decide (l[kpos l k]? = some k))]) ∧ E.Ext w w' := by
  have HU := Lib.hid hu
  clear hu
  have h0 := h.ext (E.Ext.alloc w (.cells #[.int .i64 k.stamp, .int .i64 k.sensor, .int .i64 k.seq] 28))
  unfold Key.val
  go_enter Try.func31, Try.ntmps31
  go_wp2_with fail
  refine (rising_yes l A c _ h0 hl HU.out).mono ?_
  rintro e w1 ⟨rfl, hx1⟩
  have T1 := E.blk0 hx1 rfl
  obtain ⟨cT, fT⟩ := T1.facts
  go_wp2_with fail
  refine (bsearch_any l A c k _ (h0.ext hx1) hl HU.out).mono ?_
  rintro e w2 ⟨rfl, hx2⟩
  go_wp2_with fail
  go_ret2
  exact ⟨rfl, ((E.Ext.alloc _ _).trans hx1).trans hx2⟩
theorem find_no (l : List Key) (A : Option Addr) (c : Nat) (k : Key) (w : World) (h : Sl w 3 A l.length c (keyCells l)) (hl : l.length ≤ 1099511627776) (hu : ¬ Up l) :
    Calls Try.prog 31 #[.slice A l.length c, k.val] w fun e w' => e = .returned (.tuple #[.int .i64 0, .bool false]) ∧ E.Ext w w' := by
  have HU := Lib.hid hu
  clear hu
  have h0 := h.ext (E.Ext.alloc w (.cells #[.int .i64 k.stamp, .int .i64 k.sensor, .int .i64 k.seq] 28))
  unfold Key.val
  go_enter Try.func31, Try.ntmps31
  go_wp2_with fail
  refine (rising_no l A c _ h0 hl HU.out).mono ?_
  rintro e w1 ⟨rfl, hx1⟩
  go_wp2_with fail
  go_ret2
  exact ⟨rfl, (E.Ext.alloc _ _).trans hx1⟩
end Go.Proofs.Ytedpkficechjnaa.KT
