/- entry.Rising, where keys rise. -/
import Derived.Test.YtedpkficechjnaaKI
namespace Go.Proofs.Ytedpkficechjnaa.KQ
open Go.RowKit
open Go.Proofs.Ytedpkficechjnaa
open Go.Proofs.Ytedpkficechjnaa.KA Go.Proofs.Ytedpkficechjnaa.K Go.Proofs.Ytedpkficechjnaa.KB Go.Proofs.Ytedpkficechjnaa.KI
set_option linter.unusedVariables false
set_option linter.unusedSimpArgs false

theorem same_any (a b : Key) (w : World) : Calls Try.prog 59 #[a.val, b.val] w fun e w' => e = .returned (.bool (decide (a = b))) ∧ E.Ext w w' := by
  have hk1 := fun w' x y xs ys => guardKey w' x y xs ys
  have hk2 := fun w' => eqKey w' a b
  unfold Key.val at hk2 ⊢
  go_enter Try.func59, Try.ntmps59
  go_wp2
  go_ret
  exact ⟨rfl, (E.Ext.alloc _ _).trans (E.Ext.alloc _ _)⟩

def Up (l : List Key) : Prop := ∀ (i j : Nat) x y, i < j → l[i]? = some x → l[j]? = some y → x.lt y = true

theorem lt_asymm {a b : Key} (h : a.lt b = true) : b.lt a = false := by
  cases h' : b.lt a with
  | false => rfl
  | true => have := lt_trans h h'; rw [lt_irrefl] at this; cases this
theorem lt_ne {a b : Key} (h : a.lt b = true) : ¬ b = a := fun e => by subst e; rw [lt_irrefl] at h; cases h

set_option maxHeartbeats 400000 in
theorem isSorted_yes (l : List Key) (A : Option Addr) (c : Nat) (w : World) (h : Sl w 3 A l.length c (keyCells l)) (hl : l.length ≤ 1099511627776) (hu : Up l) :
    Calls Try.prog 57 #[.slice A l.length c, .func (.func 46) #[] #[]] w fun e w' => e = .returned (.bool true) ∧ E.Ext w w' := by
  have HU := Lib.hid hu
  clear hu
  go_enter Try.func57, Try.ntmps57
  go_wp2
  go_loopw [5] (fun v wr => ∃ k : Int, v = .int .i64 k ∧ -1 ≤ k ∧ k < l.length ∧ E.Ext w wr) (fun v _ => (intOf v).toNat)
  case atStart => exact ⟨(l.length : Int) - 1, rfl, by omega, by omega, E.Ext.refl _⟩
  case round =>
    obtain ⟨k, rfl, hk1, hk2, hx⟩ := hrel
    by_cases hlt : 0 < k
    · obtain ⟨k, rfl⟩ : ∃ n : Nat, k = (n : Int) := ⟨k.toNat, by omega⟩
      obtain ⟨n, hn⟩ : ∃ n : Nat, (k : Int) - 1 = (n : Int) := ⟨k - 1, by omega⟩
      have hnk : n < k := by omega
      have hnl : n < l.length := by omega
      obtain ⟨b, o, rfl, k0, k1, k2⟩ := key_at (h.ext hx) (k := k) (by omega)
      obtain ⟨b', o', hA, m0, m1, m2⟩ := key_at (h.ext hx) (k := n) (by omega)
      cases hA
      have hlt2 := lt_asymm (HU.out n k _ _ hnk (List.getElem?_eq_getElem (by omega)) (List.getElem?_eq_getElem (by omega)))
      have hcmp : ¬ (l[k]'(by omega)).cmp (l[n]'(by omega)) < 0 := by unfold Key.lt at hlt2; simpa using hlt2
      clear hlt2
      go_wp2_with fail
      refine E.wp_plan E.ext_pre 1000000 [(0, true), (1, true), (2, true), (3, true), (4, true), (5, true), (6, true), (7, true), (8, true), (9, true), (10, false), (11, true)] (by kernel_rfl) (by kernel_rfl) ?_
      repeat (first | (refine E.plan_pure (by simp only [List.getElem?_toArray, List.getElem?_cons_succ, List.getElem?_cons_zero]; rfl) (by rfl) (fun K hK => ?_); (go_simp; try go_bits; try go_simp); refine hK _ ?_; clear hK K) | (refine E.plan_load (by simp only [List.getElem?_toArray, List.getElem?_cons_succ, List.getElem?_cons_zero]; rfl) (by rfl) (by rfl) (fun K hK => ?_); (go_simp; try go_bits; try go_simp); refine hK _ ?_; clear hK K) | (refine E.plan_skip (E.Ext.refl _) (by simp only [List.getElem?_toArray, List.getElem?_cons_succ, List.getElem?_cons_zero]; rfl) (by rfl) (fun K hK => ?_); (go_simp; try go_bits; try go_simp); refine hK _ ?_; clear hK K))
      refine E.plan_eff (by simp only [List.getElem?_toArray, List.getElem?_cons_succ, List.getElem?_cons_zero]; rfl) (by rfl) (fun K hK => ?_); (go_simp; try go_bits)
      refine (order_any (l[k]) (l[n]) _).mono ?_; rintro e w1 ⟨rfl, hx1⟩; refine hK _ _ hx1 ?_; clear hK K
      repeat (first | (refine E.plan_pure (by simp only [List.getElem?_toArray, List.getElem?_cons_succ, List.getElem?_cons_zero]; rfl) (by rfl) (fun K hK => ?_); (go_simp; try go_bits; try go_simp); refine hK _ ?_; clear hK K) | (refine E.plan_load (by simp only [List.getElem?_toArray, List.getElem?_cons_succ, List.getElem?_cons_zero]; rfl) (by rfl) (by rfl) (fun K hK => ?_); (go_simp; try go_bits; try go_simp); refine hK _ ?_; clear hK K) | (refine E.plan_skip (E.Ext.refl _) (by simp only [List.getElem?_toArray, List.getElem?_cons_succ, List.getElem?_cons_zero]; rfl) (by rfl) (fun K hK => ?_); (go_simp; try go_bits; try go_simp); refine hK _ ?_; clear hK K))
      refine E.plan_nil ?_
      go_wp2_with fail
      go_roundw
      case rel => exact ⟨(n : Int), by go_num, by omega, by omega, (hx.trans (E.Ext.drew _)).trans hx1⟩
      case measure => simp [intOf]; omega
    · go_wp2
      go_ret
      exact ⟨rfl, hx⟩

set_option maxHeartbeats 800000 in
theorem compact_yes (l : List Key) (A : Option Addr) (c : Nat) (w : World) (h : Sl w 3 A l.length c (keyCells l)) (hl : l.length ≤ 1099511627776) (hu : Up l) :
    Calls Try.prog 58 #[.slice A l.length c, .func (.func 59) #[] #[]] w fun e w' => e = .returned (.slice A l.length c) ∧ E.Ext w w' := by
  have HU := Lib.hid hu
  clear hu
  by_cases h2 : l.length < 2
  · go_enter Try.func58, Try.ntmps58
    go_wp2
    go_ret
    exact ⟨rfl, E.Ext.refl _⟩
  · go_enter Try.func58, Try.ntmps58
    go_wp2
    go_loopw [5] (fun v wr => ∃ k : Nat, v = .int .i64 k ∧ 1 ≤ k ∧ k ≤ l.length ∧ E.Ext w wr) (fun v _ => l.length - (intOf v).toNat)
    case atStart => exact ⟨1, rfl, Nat.le_refl _, by omega, E.Ext.refl _⟩
    case round =>
      obtain ⟨k, rfl, hk1, hk2, hx⟩ := hrel
      by_cases hlt : k < l.length
      · obtain ⟨n, hn⟩ : ∃ n : Nat, (k : Int) - 1 = (n : Int) := ⟨k - 1, by omega⟩
        have hnk : n < k := by omega
        have hnl : n < l.length := by omega
        obtain ⟨b, o, rfl, k0, k1, k2⟩ := key_at (h.ext hx) (k := k) (by omega)
        obtain ⟨b', o', hA, m0, m1, m2⟩ := key_at (h.ext hx) (k := n) (by omega)
        cases hA
        have hne := lt_ne (HU.out n k _ _ hnk (List.getElem?_eq_getElem (by omega)) (List.getElem?_eq_getElem (by omega)))
        have hdn : decide (l[k]'(by omega) = l[n]'(by omega)) = false := by simpa using hne
        clear hne
        go_wp2_with fail
        refine E.wp_plan E.ext_pre 1000000 [(0, true), (1, true), (2, true), (3, true), (4, true), (5, true), (6, true), (7, true), (8, true), (9, true), (10, false)] (by kernel_rfl) (by kernel_rfl) ?_
        repeat (first | (refine E.plan_pure (by simp only [List.getElem?_toArray, List.getElem?_cons_succ, List.getElem?_cons_zero]; rfl) (by rfl) (fun K hK => ?_); (go_simp; try go_bits; try go_simp); refine hK _ ?_; clear hK K) | (refine E.plan_load (by simp only [List.getElem?_toArray, List.getElem?_cons_succ, List.getElem?_cons_zero]; rfl) (by rfl) (by rfl) (fun K hK => ?_); (go_simp; try go_bits; try go_simp); refine hK _ ?_; clear hK K) | (refine E.plan_skip (E.Ext.refl _) (by simp only [List.getElem?_toArray, List.getElem?_cons_succ, List.getElem?_cons_zero]; rfl) (by rfl) (fun K hK => ?_); (go_simp; try go_bits; try go_simp); refine hK _ ?_; clear hK K))
        refine E.plan_eff (by simp only [List.getElem?_toArray, List.getElem?_cons_succ, List.getElem?_cons_zero]; rfl) (by rfl) (fun K hK => ?_); (go_simp; try go_bits)
        refine (same_any (l[k]) (l[n]) _).mono ?_; rintro e w1 ⟨rfl, hx1⟩; refine hK _ _ hx1 ?_; clear hK K
        rw [hdn]
        repeat (first | (refine E.plan_pure (by simp only [List.getElem?_toArray, List.getElem?_cons_succ, List.getElem?_cons_zero]; rfl) (by rfl) (fun K hK => ?_); (go_simp; try go_bits; try go_simp); refine hK _ ?_; clear hK K) | (refine E.plan_load (by simp only [List.getElem?_toArray, List.getElem?_cons_succ, List.getElem?_cons_zero]; rfl) (by rfl) (by rfl) (fun K hK => ?_); (go_simp; try go_bits; try go_simp); refine hK _ ?_; clear hK K) | (refine E.plan_skip (E.Ext.refl _) (by simp only [List.getElem?_toArray, List.getElem?_cons_succ, List.getElem?_cons_zero]; rfl) (by rfl) (fun K hK => ?_); (go_simp; try go_bits; try go_simp); refine hK _ ?_; clear hK K))
        refine E.plan_nil ?_
        go_wp2_with fail
        go_roundw
        case rel => exact ⟨k + 1, by go_num, by omega, by omega, (hx.trans (E.Ext.drew _)).trans hx1⟩
        case measure => simp [intOf]; omega
      · go_wp2
        go_ret
        exact ⟨rfl, hx⟩

set_option maxHeartbeats 400000 in
theorem clone_keys (l : List Key) (A : Option Addr) (c : Nat) (w : World) (h : Sl w 3 A l.length c (keyCells l)) (hl : l.length ≤ 1099511627776) :
    Calls Try.prog 47 #[.slice A l.length c] w (OwnedK w l) := by
  have he := fun wx A n c n' c' => Lib.run_eql_slice_nil (P := Try.prog) wx 24 28 A n c n' c' Try.underlying24
  cases A with
  | none =>
    have hn : l = [] := by
      cases l with
      | nil => rfl
      | cons x l => obtain ⟨b, o, e, _⟩ := h.cells (by simp [keyCells, kcells]); cases e
    subst hn
    go_enter Try.func47, Try.ntmps47
    go_wp2
    go_ret
    exact ⟨none, 0, rfl, E.Ext.refl _, World.ownsRow_nil _ _ _ _⟩
  | some ad =>
    have h1 : ∀ o, Sl (w.alloc o) 3 (some ad) l.length c (keyCells l) := fun o => h.ext (E.Ext.alloc w o)
    go_enter Try.func47, Try.ntmps47
    go_wp2_with (at_builtin; refine wpList_append_sl st47 rfl _ _ rfl w.heap.size _ 0 [] rfl (own_of_made) _ _ _ _ rfl (h1 _) (keyCells_one l) (by omega) (by decide) (by simp) ?_; intro v' w' hown hb _)
    obtain ⟨A', c', hv, _⟩ := own_sl hown
    rw [hv] at hown ⊢
    go_ret
    simp only [Nat.zero_add, List.nil_append] at hown ⊢
    exact ⟨A', c', rfl, (E.Ext.alloc w _).then hb, hown⟩

set_option maxHeartbeats 400000 in
theorem rising_yes (l : List Key) (A : Option Addr) (c : Nat) (w : World) (h : Sl w 3 A l.length c (keyCells l)) (hl : l.length ≤ 1099511627776) (hu : Up l) :
    Calls Try.prog 45 #[.slice A l.length c] w fun e w' => e = .returned (.bool true) ∧ E.Ext w w' := by
  have HU := Lib.hid hu
  clear hu
  go_enter Try.func45, Try.ntmps45
  go_wp2_with fail
  refine (isSorted_yes l A c _ h hl HU.out).mono ?_
  rintro e w1 ⟨rfl, hx1⟩
  go_wp2_with fail
  refine (clone_keys l A c _ (h.ext hx1) hl).mono ?_
  rintro e w2 ⟨A', c', rfl, hx2, ho⟩
  obtain ⟨A2, c2, hv, hsl⟩ := own_sl ho
  have hcc : A2 = A' ∧ c2 = c' := by injection hv with h1 _ h3; exact ⟨h1.symm, h3.symm⟩
  obtain ⟨rfl, rfl⟩ := hcc
  go_wp2_with fail
  refine (compact_yes l A2 c2 _ hsl hl HU.out).mono ?_
  rintro e w3 ⟨rfl, hx3⟩
  go_wp2_with fail
  go_ret
  exact ⟨rfl, (hx1.trans hx2).trans hx3⟩
end Go.Proofs.Ytedpkficechjnaa.KQ
