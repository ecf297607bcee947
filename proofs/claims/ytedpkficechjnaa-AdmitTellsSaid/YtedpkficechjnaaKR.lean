/- entry.Rising of any list; the place of a key. -/
import Derived.Test.YtedpkficechjnaaKQ
import Derived.Test.YtedpkficechjnaaS
namespace Go.Proofs.Ytedpkficechjnaa.KR
open Go.RowKit
open Go.Proofs.Ytedpkficechjnaa
open Go.Proofs.Ytedpkficechjnaa.KA Go.Proofs.Ytedpkficechjnaa.K Go.Proofs.Ytedpkficechjnaa.KB Go.Proofs.Ytedpkficechjnaa.KI Go.Proofs.Ytedpkficechjnaa.KQ Go.Proofs.Ytedpkficechjnaa.S
set_option linter.unusedVariables false
set_option linter.unusedSimpArgs false

def Asc (l : List Key) : Prop := ∀ (i : Nat) x y, l[i]? = some x → l[i + 1]? = some y → y.lt x = false
def Dups (l : List Key) : Prop := ∃ (i : Nat) (x : Key), l[i]? = some x ∧ l[i + 1]? = some x
theorem up_of {l : List Key} (h : Asc l) (hd : ¬ Dups l) : Up l := by
  have step : ∀ (d i : Nat) x y, l[i]? = some x → l[i + d + 1]? = some y → x.lt y = true := by
    intro d
    induction d with
    | zero =>
      intro i x y hx hy
      rcases lt_total (h i x y hx hy) with e | e
      · subst e; exact (hd ⟨i, _, hx, hy⟩).elim
      · exact e
    | succ d ih =>
      intro i x y hx hy
      have hlt := (List.getElem?_eq_some_iff.1 hy).1
      have hz : l[i + d + 1]? = some (l[i + d + 1]'(by omega)) := List.getElem?_eq_getElem (by omega)
      have h1 := ih i x _ hx hz
      rcases lt_total (h (i + d + 1) _ y hz (by rw [← hy]; congr 1)) with e | e
      · subst e; exact h1
      · exact lt_trans h1 e
  intro i j x y hij hx hy
  exact step (j - i - 1) i x y hx (by rw [← hy]; congr 1; omega)
theorem asc_of_up {l : List Key} (h : Up l) : Asc l := fun i x y hx hy => lt_asymm (h i (i + 1) x y (by omega) hx hy)
theorem not_dups_of_up {l : List Key} (h : Up l) : ¬ Dups l := fun ⟨i, x, hx, hy⟩ => by
  have := h i (i + 1) x x (by omega) hx hy
  rw [lt_irrefl] at this
  cases this
noncomputable def upB (l : List Key) : Bool := open Classical in decide (Up l)
theorem upB_iff {l : List Key} : upB l = true ↔ Up l := by unfold upB; simp
theorem upB_not {l : List Key} (h : ¬ Up l) : upB l = false := by unfold upB; simpa using h

set_option maxHeartbeats 400000 in
theorem isSorted_asc (l : List Key) (A : Option Addr) (c : Nat) (w : World) (h : Sl w 3 A l.length c (keyCells l)) (hl : l.length ≤ 1099511627776) (hu : Asc l) :
    Calls Try.prog 57 #[.slice A l.length c, .func (.func 46) #[] #[]] w fun e w' => e = .returned (.bool true) ∧ E.Ext w w' := by
  have HU := Lib.hid hu
  clear hu
  go_enter Try.func57, Try.ntmps57
  go_wp2
  go_loopw [5] (fun v wr => ∃ k : Int, v = .int .i64 k ∧ -1 ≤ k ∧ k < l.length ∧ E.Ext w wr) (fun v _ => (intOf v).toNat)
  case atStart => exact ⟨(l.length : Int) - 1, rfl, by omega, by omega, E.Ext.refl _⟩
  case round =>
    obtain ⟨k, rfl, hk1, hk2, hx⟩ := hrel
    by_cases hlt : 0 < k
    · obtain ⟨k, rfl⟩ : ∃ n : Nat, k = (n : Int) := ⟨k.toNat, by omega⟩
      obtain ⟨n, hn⟩ : ∃ n : Nat, (k : Int) - 1 = (n : Int) := ⟨k - 1, by omega⟩
      have hnl : n < l.length := by omega
      have hnk : k = n + 1 := by omega
      have HNK := Lib.hid hnk
      clear hnk
      obtain ⟨b, o, rfl, k0, k1, k2⟩ := key_at (h.ext hx) (k := k) (by omega)
      obtain ⟨b', o', hA, m0, m1, m2⟩ := key_at (h.ext hx) (k := n) (by omega)
      cases hA
      have hlt2 := HU.out n (l[n]'(by omega)) (l[k]'(by omega)) (List.getElem?_eq_getElem (by omega)) (by rw [← HNK.out]; exact List.getElem?_eq_getElem (by omega))
      have hcmp : ¬ (l[k]'(by omega)).cmp (l[n]'(by omega)) < 0 := by unfold Key.lt at hlt2; simpa using hlt2
      clear hlt2
      go_wp2_with fail
      refine E.wp_plan E.ext_pre 1000000 [(0, true), (1, true), (2, true), (3, true), (4, true), (5, true), (6, true), (7, true), (8, true), (9, true), (10, false), (11, true)] (by kernel_rfl) (by kernel_rfl) ?_
      repeat (first | (refine E.plan_pure (by simp only [List.getElem?_toArray, List.getElem?_cons_succ, List.getElem?_cons_zero]; rfl) (by rfl) (fun K hK => ?_); (go_simp; try go_bits; try go_simp); refine hK _ ?_; clear hK K) | (refine E.plan_load (by simp only [List.getElem?_toArray, List.getElem?_cons_succ, List.getElem?_cons_zero]; rfl) (by rfl) (by rfl) (fun K hK => ?_); (go_simp; try go_bits; try go_simp); refine hK _ ?_; clear hK K) | (refine E.plan_skip (E.Ext.refl _) (by simp only [List.getElem?_toArray, List.getElem?_cons_succ, List.getElem?_cons_zero]; rfl) (by rfl) (fun K hK => ?_); (go_simp; try go_bits; try go_simp); refine hK _ ?_; clear hK K))
      refine E.plan_eff (by simp only [List.getElem?_toArray, List.getElem?_cons_succ, List.getElem?_cons_zero]; rfl) (by rfl) (fun K hK => ?_); (go_simp; try go_bits)
      refine (order_any (l[k]) (l[n]) _).mono ?_; rintro e w1 ⟨rfl, hx1⟩; refine hK _ _ hx1 ?_; clear hK K
      repeat (first | (refine E.plan_pure (by simp only [List.getElem?_toArray, List.getElem?_cons_succ, List.getElem?_cons_zero]; rfl) (by rfl) (fun K hK => ?_); (go_simp; try go_bits; try go_simp); refine hK _ ?_; clear hK K) | (refine E.plan_load (by simp only [List.getElem?_toArray, List.getElem?_cons_succ, List.getElem?_cons_zero]; rfl) (by rfl) (by rfl) (fun K hK => ?_); (go_simp; try go_bits; try go_simp); refine hK _ ?_; clear hK K) | (refine E.plan_skip (E.Ext.refl _) (by simp only [List.getElem?_toArray, List.getElem?_cons_succ, List.getElem?_cons_zero]; rfl) (by rfl) (fun K hK => ?_); (go_simp; try go_bits; try go_simp); refine hK _ ?_; clear hK K))
      refine E.plan_nil ?_
      go_wp2_with fail
      go_roundw
      case rel => exact ⟨(n : Int), by go_num, by omega, by omega, (hx.trans (E.Ext.drew _)).trans hx1⟩
      case measure => simp [intOf]; omega
    · go_wp2
      go_ret
      exact ⟨rfl, hx⟩

set_option maxHeartbeats 400000 in
theorem isSorted_no (l : List Key) (A : Option Addr) (c : Nat) (w : World) (h : Sl w 3 A l.length c (keyCells l)) (hl : l.length ≤ 1099511627776) (hu : ¬ Asc l) :
    Calls Try.prog 57 #[.slice A l.length c, .func (.func 46) #[] #[]] w fun e w' => e = .returned (.bool false) ∧ E.Ext w w' := by
  have HU := Lib.hid hu
  clear hu
  go_enter Try.func57, Try.ntmps57
  go_wp2
  go_loopw [5] (fun v wr => ∃ k : Int, v = .int .i64 k ∧ -1 ≤ k ∧ k < l.length ∧ E.Ext w wr ∧ ∀ (i : Nat) x y, k ≤ (i : Int) → l[i]? = some x → l[i + 1]? = some y → y.lt x = false) (fun v _ => (intOf v).toNat)
  case atStart => exact ⟨(l.length : Int) - 1, rfl, by omega, by omega, E.Ext.refl _, fun i x y hi hx hy => by have := (List.getElem?_eq_some_iff.1 hy).1; omega⟩
  case round =>
    obtain ⟨k, rfl, hk1, hk2, hx, hno⟩ := hrel
    have HNO := Lib.hid hno
    clear hno
    by_cases hlt : 0 < k
    · obtain ⟨k, rfl⟩ : ∃ n : Nat, k = (n : Int) := ⟨k.toNat, by omega⟩
      obtain ⟨n, hn⟩ : ∃ n : Nat, (k : Int) - 1 = (n : Int) := ⟨k - 1, by omega⟩
      have hnl : n < l.length := by omega
      have hnk : k = n + 1 := by omega
      have HNK := Lib.hid hnk
      clear hnk
      obtain ⟨b, o, rfl, k0, k1, k2⟩ := key_at (h.ext hx) (k := k) (by omega)
      obtain ⟨b', o', hA, m0, m1, m2⟩ := key_at (h.ext hx) (k := n) (by omega)
      cases hA
      by_cases hcmp : (l[k]'(by omega)).cmp (l[n]'(by omega)) < 0
      · go_wp2_with fail
        refine E.wp_plan E.ext_pre 1000000 [(0, true), (1, true), (2, true), (3, true), (4, true), (5, true), (6, true), (7, true), (8, true), (9, true), (10, false), (11, true)] (by kernel_rfl) (by kernel_rfl) ?_
        repeat (first | (refine E.plan_pure (by simp only [List.getElem?_toArray, List.getElem?_cons_succ, List.getElem?_cons_zero]; rfl) (by rfl) (fun K hK => ?_); (go_simp; try go_bits; try go_simp); refine hK _ ?_; clear hK K) | (refine E.plan_load (by simp only [List.getElem?_toArray, List.getElem?_cons_succ, List.getElem?_cons_zero]; rfl) (by rfl) (by rfl) (fun K hK => ?_); (go_simp; try go_bits; try go_simp); refine hK _ ?_; clear hK K) | (refine E.plan_skip (E.Ext.refl _) (by simp only [List.getElem?_toArray, List.getElem?_cons_succ, List.getElem?_cons_zero]; rfl) (by rfl) (fun K hK => ?_); (go_simp; try go_bits; try go_simp); refine hK _ ?_; clear hK K))
        refine E.plan_eff (by simp only [List.getElem?_toArray, List.getElem?_cons_succ, List.getElem?_cons_zero]; rfl) (by rfl) (fun K hK => ?_); (go_simp; try go_bits)
        refine (order_any (l[k]) (l[n]) _).mono ?_; rintro e w1 ⟨rfl, hx1⟩; refine hK _ _ hx1 ?_; clear hK K
        repeat (first | (refine E.plan_pure (by simp only [List.getElem?_toArray, List.getElem?_cons_succ, List.getElem?_cons_zero]; rfl) (by rfl) (fun K hK => ?_); (go_simp; try go_bits; try go_simp); refine hK _ ?_; clear hK K) | (refine E.plan_load (by simp only [List.getElem?_toArray, List.getElem?_cons_succ, List.getElem?_cons_zero]; rfl) (by rfl) (by rfl) (fun K hK => ?_); (go_simp; try go_bits; try go_simp); refine hK _ ?_; clear hK K) | (refine E.plan_skip (E.Ext.refl _) (by simp only [List.getElem?_toArray, List.getElem?_cons_succ, List.getElem?_cons_zero]; rfl) (by rfl) (fun K hK => ?_); (go_simp; try go_bits; try go_simp); refine hK _ ?_; clear hK K))
        refine E.plan_nil ?_
        go_wp2_with fail
        go_ret
        exact ⟨rfl, (hx.trans (E.Ext.drew _)).trans hx1⟩
      · have hlt2 : (l[k]'(by omega)).lt (l[n]'(by omega)) = false := by unfold Key.lt; simpa using hcmp
        have HL2 := Lib.hid hlt2
        clear hlt2
        go_wp2_with fail
        refine E.wp_plan E.ext_pre 1000000 [(0, true), (1, true), (2, true), (3, true), (4, true), (5, true), (6, true), (7, true), (8, true), (9, true), (10, false), (11, true)] (by kernel_rfl) (by kernel_rfl) ?_
        repeat (first | (refine E.plan_pure (by simp only [List.getElem?_toArray, List.getElem?_cons_succ, List.getElem?_cons_zero]; rfl) (by rfl) (fun K hK => ?_); (go_simp; try go_bits; try go_simp); refine hK _ ?_; clear hK K) | (refine E.plan_load (by simp only [List.getElem?_toArray, List.getElem?_cons_succ, List.getElem?_cons_zero]; rfl) (by rfl) (by rfl) (fun K hK => ?_); (go_simp; try go_bits; try go_simp); refine hK _ ?_; clear hK K) | (refine E.plan_skip (E.Ext.refl _) (by simp only [List.getElem?_toArray, List.getElem?_cons_succ, List.getElem?_cons_zero]; rfl) (by rfl) (fun K hK => ?_); (go_simp; try go_bits; try go_simp); refine hK _ ?_; clear hK K))
        refine E.plan_eff (by simp only [List.getElem?_toArray, List.getElem?_cons_succ, List.getElem?_cons_zero]; rfl) (by rfl) (fun K hK => ?_); (go_simp; try go_bits)
        refine (order_any (l[k]) (l[n]) _).mono ?_; rintro e w1 ⟨rfl, hx1⟩; refine hK _ _ hx1 ?_; clear hK K
        repeat (first | (refine E.plan_pure (by simp only [List.getElem?_toArray, List.getElem?_cons_succ, List.getElem?_cons_zero]; rfl) (by rfl) (fun K hK => ?_); (go_simp; try go_bits; try go_simp); refine hK _ ?_; clear hK K) | (refine E.plan_load (by simp only [List.getElem?_toArray, List.getElem?_cons_succ, List.getElem?_cons_zero]; rfl) (by rfl) (by rfl) (fun K hK => ?_); (go_simp; try go_bits; try go_simp); refine hK _ ?_; clear hK K) | (refine E.plan_skip (E.Ext.refl _) (by simp only [List.getElem?_toArray, List.getElem?_cons_succ, List.getElem?_cons_zero]; rfl) (by rfl) (fun K hK => ?_); (go_simp; try go_bits; try go_simp); refine hK _ ?_; clear hK K))
        refine E.plan_nil ?_
        go_wp2_with fail
        go_roundw
        case rel => exact ⟨(n : Int), by go_num, by omega, by omega, (hx.trans (E.Ext.drew _)).trans hx1, fun i x y hi hx hy => by
          by_cases hin : i = n
          · subst hin
            have h1 := HL2.out
            rw [List.getElem?_eq_getElem (by omega)] at hx
            rw [← HNK.out, List.getElem?_eq_getElem (by omega)] at hy
            cases hx
            cases hy
            exact h1
          · exact HNO.out i x y (by omega) hx hy⟩
        case measure => simp [intOf]; omega
    · exfalso
      exact HU.out (fun i x y hx hy => HNO.out i x y (by omega) hx hy)

set_option maxHeartbeats 800000 in
theorem compact_same (l : List Key) (A : Option Addr) (c : Nat) (w : World) (h : Sl w 3 A l.length c (keyCells l)) (hl : l.length ≤ 1099511627776) (hu : ¬ Dups l) :
    Calls Try.prog 58 #[.slice A l.length c, .func (.func 59) #[] #[]] w fun e w' => e = .returned (.slice A l.length c) ∧ E.Ext w w' := by
  have HU := Lib.hid hu
  clear hu
  by_cases h2 : l.length < 2
  · go_enter Try.func58, Try.ntmps58
    go_wp2
    go_ret
    exact ⟨rfl, E.Ext.refl _⟩
  · go_enter Try.func58, Try.ntmps58
    go_wp2
    go_loopw [5] (fun v wr => ∃ k : Nat, v = .int .i64 k ∧ 1 ≤ k ∧ k ≤ l.length ∧ E.Ext w wr) (fun v _ => l.length - (intOf v).toNat)
    case atStart => exact ⟨1, rfl, Nat.le_refl _, by omega, E.Ext.refl _⟩
    case round =>
      obtain ⟨k, rfl, hk1, hk2, hx⟩ := hrel
      by_cases hlt : k < l.length
      · obtain ⟨n, hn⟩ : ∃ n : Nat, (k : Int) - 1 = (n : Int) := ⟨k - 1, by omega⟩
        have hnl : n < l.length := by omega
        have hnk : k = n + 1 := by omega
        have HNK := Lib.hid hnk
        clear hnk
        obtain ⟨b, o, rfl, k0, k1, k2⟩ := key_at (h.ext hx) (k := k) (by omega)
        obtain ⟨b', o', hA, m0, m1, m2⟩ := key_at (h.ext hx) (k := n) (by omega)
        cases hA
        have hne : ¬ l[k]'(by omega) = l[n]'(by omega) := fun e => HU.out ⟨n, l[n], List.getElem?_eq_getElem (by omega), by rw [← HNK.out, List.getElem?_eq_getElem (by omega), e]⟩
        have hdn : decide (l[k]'(by omega) = l[n]'(by omega)) = false := by simpa using hne
        clear hne
        go_wp2_with fail
        refine E.wp_plan E.ext_pre 1000000 [(0, true), (1, true), (2, true), (3, true), (4, true), (5, true), (6, true), (7, true), (8, true), (9, true), (10, false)] (by kernel_rfl) (by kernel_rfl) ?_
        repeat (first | (refine E.plan_pure (by simp only [List.getElem?_toArray, List.getElem?_cons_succ, List.getElem?_cons_zero]; rfl) (by rfl) (fun K hK => ?_); (go_simp; try go_bits; try go_simp); refine hK _ ?_; clear hK K) | (refine E.plan_load (by simp only [List.getElem?_toArray, List.getElem?_cons_succ, List.getElem?_cons_zero]; rfl) (by rfl) (by rfl) (fun K hK => ?_); (go_simp; try go_bits; try go_simp); refine hK _ ?_; clear hK K) | (refine E.plan_skip (E.Ext.refl _) (by simp only [List.getElem?_toArray, List.getElem?_cons_succ, List.getElem?_cons_zero]; rfl) (by rfl) (fun K hK => ?_); (go_simp; try go_bits; try go_simp); refine hK _ ?_; clear hK K))
        refine E.plan_eff (by simp only [List.getElem?_toArray, List.getElem?_cons_succ, List.getElem?_cons_zero]; rfl) (by rfl) (fun K hK => ?_); (go_simp; try go_bits)
        refine (same_any (l[k]) (l[n]) _).mono ?_; rintro e w1 ⟨rfl, hx1⟩; refine hK _ _ hx1 ?_; clear hK K
        rw [hdn]
        repeat (first | (refine E.plan_pure (by simp only [List.getElem?_toArray, List.getElem?_cons_succ, List.getElem?_cons_zero]; rfl) (by rfl) (fun K hK => ?_); (go_simp; try go_bits; try go_simp); refine hK _ ?_; clear hK K) | (refine E.plan_load (by simp only [List.getElem?_toArray, List.getElem?_cons_succ, List.getElem?_cons_zero]; rfl) (by rfl) (by rfl) (fun K hK => ?_); (go_simp; try go_bits; try go_simp); refine hK _ ?_; clear hK K) | (refine E.plan_skip (E.Ext.refl _) (by simp only [List.getElem?_toArray, List.getElem?_cons_succ, List.getElem?_cons_zero]; rfl) (by rfl) (fun K hK => ?_); (go_simp; try go_bits; try go_simp); refine hK _ ?_; clear hK K))
        refine E.plan_nil ?_
        go_wp2_with fail
        go_roundw
        case rel => exact ⟨k + 1, by go_num, by omega, by omega, (hx.trans (E.Ext.drew _)).trans hx1⟩
        case measure => simp [intOf]; omega
      · go_wp2
        go_ret
        exact ⟨rfl, hx⟩

/-- A block whose first n elements are keys. -/
def Keyed (cs : Array Value) (n : Nat) : Prop :=
  ∀ i, i < n → ∃ k : Key, cs[i * 3]? = some (.int .i64 k.stamp) ∧ cs[i * 3 + 1]? = some (.int .i64 k.sensor) ∧ cs[i * 3 + 2]? = some (.int .i64 k.seq)
theorem Keyed.size {cs : Array Value} {n : Nat} (h : Keyed cs n) : n * 3 ≤ cs.size := by
  rcases Nat.eq_zero_or_pos n with h0 | h0
  · omega
  · obtain ⟨k, _, _, h2⟩ := h (n - 1) (by omega)
    have := (Array.getElem?_eq_some_iff.1 h2).1
    omega
theorem Keyed.put {cs : Array Value} {n p : Nat} (h : Keyed cs n) (k : Key) (hp : p < n) : Keyed (((cs.setIfInBounds (p * 3) (.int .i64 k.stamp)).setIfInBounds (p * 3 + 1) (.int .i64 k.sensor)).setIfInBounds (p * 3 + 2) (.int .i64 k.seq)) n := by
  have hs := h.size
  intro i hi
  by_cases hip : i = p
  · subst hip
    refine ⟨k, ?_, ?_, ?_⟩
    · rw [Array.getElem?_setIfInBounds_ne (by omega), Array.getElem?_setIfInBounds_ne (by omega), Array.getElem?_setIfInBounds_self_of_lt (by omega)]
    · rw [Array.getElem?_setIfInBounds_ne (by omega), Array.getElem?_setIfInBounds_self_of_lt (by simp; omega)]
    · rw [Array.getElem?_setIfInBounds_self_of_lt (by simp; omega)]
  · obtain ⟨k', h0, h1, h2⟩ := h i hi
    refine ⟨k', ?_, ?_, ?_⟩
    · rw [Array.getElem?_setIfInBounds_ne (by omega), Array.getElem?_setIfInBounds_ne (by omega), Array.getElem?_setIfInBounds_ne (by omega)]; exact h0
    · rw [Array.getElem?_setIfInBounds_ne (by omega), Array.getElem?_setIfInBounds_ne (by omega), Array.getElem?_setIfInBounds_ne (by omega)]; exact h1
    · rw [Array.getElem?_setIfInBounds_ne (by omega), Array.getElem?_setIfInBounds_ne (by omega), Array.getElem?_setIfInBounds_ne (by omega)]; exact h2
theorem keyed_of {w : World} {l : List Key} {g c base : Nat} (h : w.ownsRow base 28 3 (.slice (some ⟨g, 0, none⟩) l.length c) l.length (keyCells l)) : ∃ cs, E.Blk w g 28 cs ∧ Keyed cs l.length ∧ l.length ≤ c := by
  rcases h.2 with ⟨hv, _⟩ | ⟨g', cap, cur, hv, _, hg, hnc, _, hsz, _⟩
  · cases hv
  · cases hv
    refine ⟨cur, hg, fun i hi => ?_, hnc⟩
    have hgb : E.Blk w g 28 cur := hg
    have hat := fun j u hu => (h.cells (g := g) rfl j u hu)
    simp only [addr_add, Nat.zero_add, hgb.cell] at hat
    have hk : l[i]? = some l[i] := List.getElem?_eq_getElem hi
    exact ⟨l[i], hat _ _ (keyCells_get hk 0 (by omega)), hat _ _ (keyCells_get hk 1 (by omega)), hat _ _ (keyCells_get hk 2 (by omega))⟩
end Go.Proofs.Ytedpkficechjnaa.KR
