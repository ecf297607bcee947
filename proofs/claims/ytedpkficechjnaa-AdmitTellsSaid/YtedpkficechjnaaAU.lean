/- The document's twin, Rising, Find; Newest, full; copies of shelves, and shelves side by side. -/
import Derived.Test.YtedpkficechjnaaAT
import Derived.Test.YtedpkficechjnaaKO
namespace Go.Proofs.Ytedpkficechjnaa.AU
open Go.RowKit
open Go.Proofs.Ytedpkficechjnaa
open Go.Proofs.Ytedpkficechjnaa.KA Go.Proofs.Ytedpkficechjnaa.K Go.Proofs.Ytedpkficechjnaa.KB Go.Proofs.Ytedpkficechjnaa.KI Go.Proofs.Ytedpkficechjnaa.KQ Go.Proofs.Ytedpkficechjnaa.S Go.Proofs.Ytedpkficechjnaa.KR Go.Proofs.Ytedpkficechjnaa.KS Go.Proofs.Ytedpkficechjnaa.KT Go.Proofs.Ytedpkficechjnaa.KO Go.Proofs.Ytedpkficechjnaa.AS Go.Proofs.Ytedpkficechjnaa.AT
set_option linter.unusedVariables false
set_option linter.unusedSimpArgs false

set_option maxHeartbeats 800000 in
theorem twinR_any (l : List Key) (A : Option Addr) (c : Nat) (k : Key) (w : World) (h : Sl w 3 A l.length c (keyCells l)) (hl : l.length ≤ 1099511627776) :
    Calls Try.prog 52 #[.slice A l.length c, k.val] w fun e w' => e = .returned (.bool (twinB l k)) ∧ E.Ext w w' := by
  have h0 := h.ext (E.Ext.alloc w (.cells #[.int .i64 k.stamp, .int .i64 k.sensor, .int .i64 k.seq] 28))
  have T0 := E.Blk.new w 28 #[.int .i64 k.stamp, .int .i64 k.sensor, .int .i64 k.seq]
  unfold Key.val
  go_enter Try.func52, Try.ntmps52
  go_wp2
  go_loopw [5] (fun v wr => ∃ i : Nat, v = .int .i64 i ∧ i ≤ l.length ∧ E.Ext (w.alloc (.cells #[.int .i64 k.stamp, .int .i64 k.sensor, .int .i64 k.seq] 28)) wr ∧ twinB (l.take i) k = false) (fun v _ => l.length - (intOf v).toNat)
  case atStart => exact ⟨0, rfl, Nat.zero_le _, E.Ext.refl _, rfl⟩
  case round =>
    obtain ⟨i, rfl, hi, hx, hno⟩ := hrel
    have HNO := Lib.hid hno
    clear hno
    have T1 := T0.ext hx
    obtain ⟨cT, fT⟩ := T1.facts
    by_cases hlt : i < l.length
    · obtain ⟨b, o, rfl, k0, k1, k2⟩ := key_at (h0.ext hx) (k := i) hlt
      have hli : l[i]? = some l[i] := List.getElem?_eq_getElem hlt
      have HLI := Lib.hid hli
      clear hli
      cases ht : twinsB l[i] k with
      | true =>
        have HT := Lib.hid ht
        clear ht
        go_wp2_with fail
        refine E.wp_plan E.ext_pre 1000000 [(0, true), (1, true), (2, true), (3, true), (4, true), (5, false)] (by kernel_rfl) (by kernel_rfl) ?_
        repeat (first | (refine E.plan_pure (by simp only [List.getElem?_toArray, List.getElem?_cons_succ, List.getElem?_cons_zero]; rfl) (by rfl) (fun K hK => ?_); (go_simp; try go_bits; try go_simp); refine hK _ ?_; clear hK K) | (refine E.plan_load (by simp only [List.getElem?_toArray, List.getElem?_cons_succ, List.getElem?_cons_zero]; rfl) (by rfl) (by rfl) (fun K hK => ?_); (go_simp; try go_bits; try go_simp); refine hK _ ?_; clear hK K) | (refine E.plan_skip (E.Ext.refl _) (by simp only [List.getElem?_toArray, List.getElem?_cons_succ, List.getElem?_cons_zero]; rfl) (by rfl) (fun K hK => ?_); (go_simp; try go_bits; try go_simp); refine hK _ ?_; clear hK K))
        refine E.plan_eff (by simp only [List.getElem?_toArray, List.getElem?_cons_succ, List.getElem?_cons_zero]; rfl) (by rfl) (fun K hK => ?_); (go_simp; try go_bits)
        refine (twinsR_any l[i] k _).mono ?_; rintro e w1 ⟨rfl, hx1⟩; refine hK _ _ hx1 ?_; clear hK K
        rw [HT.out]
        repeat (first | (refine E.plan_pure (by simp only [List.getElem?_toArray, List.getElem?_cons_succ, List.getElem?_cons_zero]; rfl) (by rfl) (fun K hK => ?_); (go_simp; try go_bits; try go_simp); refine hK _ ?_; clear hK K) | (refine E.plan_load (by simp only [List.getElem?_toArray, List.getElem?_cons_succ, List.getElem?_cons_zero]; rfl) (by rfl) (by rfl) (fun K hK => ?_); (go_simp; try go_bits; try go_simp); refine hK _ ?_; clear hK K) | (refine E.plan_skip (E.Ext.refl _) (by simp only [List.getElem?_toArray, List.getElem?_cons_succ, List.getElem?_cons_zero]; rfl) (by rfl) (fun K hK => ?_); (go_simp; try go_bits; try go_simp); refine hK _ ?_; clear hK K))
        refine E.plan_nil ?_
        go_wp2_with fail
        go_ret
        have hty := twinB_yes HLI.out HT.out
        exact ⟨by rw [hty]; rfl, ((E.Ext.alloc _ _).trans hx).trans ((E.Ext.drew _).trans hx1)⟩
      | false =>
        have HT := Lib.hid ht
        clear ht
        go_wp2_with fail
        refine E.wp_plan E.ext_pre 1000000 [(0, true), (1, true), (2, true), (3, true), (4, true), (5, false)] (by kernel_rfl) (by kernel_rfl) ?_
        repeat (first | (refine E.plan_pure (by simp only [List.getElem?_toArray, List.getElem?_cons_succ, List.getElem?_cons_zero]; rfl) (by rfl) (fun K hK => ?_); (go_simp; try go_bits; try go_simp); refine hK _ ?_; clear hK K) | (refine E.plan_load (by simp only [List.getElem?_toArray, List.getElem?_cons_succ, List.getElem?_cons_zero]; rfl) (by rfl) (by rfl) (fun K hK => ?_); (go_simp; try go_bits; try go_simp); refine hK _ ?_; clear hK K) | (refine E.plan_skip (E.Ext.refl _) (by simp only [List.getElem?_toArray, List.getElem?_cons_succ, List.getElem?_cons_zero]; rfl) (by rfl) (fun K hK => ?_); (go_simp; try go_bits; try go_simp); refine hK _ ?_; clear hK K))
        refine E.plan_eff (by simp only [List.getElem?_toArray, List.getElem?_cons_succ, List.getElem?_cons_zero]; rfl) (by rfl) (fun K hK => ?_); (go_simp; try go_bits)
        refine (twinsR_any l[i] k _).mono ?_; rintro e w1 ⟨rfl, hx1⟩; refine hK _ _ hx1 ?_; clear hK K
        rw [HT.out]
        repeat (first | (refine E.plan_pure (by simp only [List.getElem?_toArray, List.getElem?_cons_succ, List.getElem?_cons_zero]; rfl) (by rfl) (fun K hK => ?_); (go_simp; try go_bits; try go_simp); refine hK _ ?_; clear hK K) | (refine E.plan_load (by simp only [List.getElem?_toArray, List.getElem?_cons_succ, List.getElem?_cons_zero]; rfl) (by rfl) (by rfl) (fun K hK => ?_); (go_simp; try go_bits; try go_simp); refine hK _ ?_; clear hK K) | (refine E.plan_skip (E.Ext.refl _) (by simp only [List.getElem?_toArray, List.getElem?_cons_succ, List.getElem?_cons_zero]; rfl) (by rfl) (fun K hK => ?_); (go_simp; try go_bits; try go_simp); refine hK _ ?_; clear hK K))
        refine E.plan_nil ?_
        go_wp2_with fail
        go_roundw
        case rel => exact ⟨i + 1, by go_num, by omega, (hx.trans (E.Ext.drew _)).trans hx1, twinB_take HLI.out HNO.out HT.out⟩
        case measure => simp [intOf]; omega
    · go_wp2_with fail
      go_ret
      have hn : twinB l k = false := by
        have := HNO.out
        rwa [List.take_of_length_le (by omega)] at this
      exact ⟨by rw [hn]; rfl, (E.Ext.alloc _ _).trans hx⟩

theorem up_of_adj {l : List Key} (h : ∀ (i : Nat) x y, l[i]? = some x → l[i + 1]? = some y → x.lt y = true) : Up l :=
  up_of (fun i x y hx hy => lt_asymm (h i x y hx hy)) (fun ⟨i, x, hx, hy⟩ => by
    have := h i x x hx hy
    rw [lt_irrefl] at this
    cases this)
set_option maxHeartbeats 800000 in
theorem risingR_any (l : List Key) (A : Option Addr) (c : Nat) (w : World) (h : Sl w 3 A l.length c (keyCells l)) (hl : l.length ≤ 1099511627776) :
    Calls Try.prog 51 #[.slice A l.length c] w fun e w' => e = .returned (.bool (upB l)) ∧ E.Ext w w' := by
  go_enter Try.func51, Try.ntmps51
  go_wp2
  go_loopw [3] (fun v wr => ∃ k : Nat, v = .int .i64 k ∧ 1 ≤ k ∧ (k ≤ l.length ∨ k = 1) ∧ E.Ext w wr ∧ ∀ (i : Nat) x y, i + 1 < k → l[i]? = some x → l[i + 1]? = some y → x.lt y = true) (fun v _ => l.length - (intOf v).toNat)
  case atStart => exact ⟨1, rfl, Nat.le_refl _, Or.inr rfl, E.Ext.refl _, fun i x y hi => by omega⟩
  case round =>
    obtain ⟨k, rfl, hk1, hk2, hx, hno⟩ := hrel
    have HNO := Lib.hid hno
    have HK2 := Lib.hid hk2
    clear hno hk2
    by_cases hlt : k < l.length
    · obtain ⟨n, hn⟩ : ∃ n : Nat, (k : Int) - 1 = (n : Int) := ⟨k - 1, by omega⟩
      have hnl : n < l.length := by omega
      have hnk : k = n + 1 := by omega
      have HNK := Lib.hid hnk
      clear hnk
      obtain ⟨b, o, rfl, k0, k1, k2⟩ := key_at (h.ext hx) (k := k) (by omega)
      obtain ⟨b', o', hA, m0, m1, m2⟩ := key_at (h.ext hx) (k := n) (by omega)
      cases hA
      have hln : l[n]? = some l[n] := List.getElem?_eq_getElem hnl
      have hlk : l[k]? = some l[k] := List.getElem?_eq_getElem hlt
      have HLN := Lib.hid hln
      have HLK := Lib.hid hlk
      clear hln hlk
      cases hq : (l[n]'hnl).lt (l[k]'hlt) with
      | true =>
        have HQ := Lib.hid hq
        go_wp2_with fail
        refine E.wp_plan E.ext_pre 1000000 [(0, true), (1, true), (2, true), (3, true), (4, true), (5, true), (6, true), (7, true), (8, true), (9, false), (10, true)] (by kernel_rfl) (by kernel_rfl) ?_
        repeat (first | (refine E.plan_pure (by simp only [List.getElem?_toArray, List.getElem?_cons_succ, List.getElem?_cons_zero]; rfl) (by rfl) (fun K hK => ?_); (go_simp; try go_bits; try go_simp); refine hK _ ?_; clear hK K) | (refine E.plan_load (by simp only [List.getElem?_toArray, List.getElem?_cons_succ, List.getElem?_cons_zero]; rfl) (by rfl) (by rfl) (fun K hK => ?_); (go_simp; try go_bits; try go_simp); refine hK _ ?_; clear hK K) | (refine E.plan_skip (E.Ext.refl _) (by simp only [List.getElem?_toArray, List.getElem?_cons_succ, List.getElem?_cons_zero]; rfl) (by rfl) (fun K hK => ?_); (go_simp; try go_bits; try go_simp); refine hK _ ?_; clear hK K))
        refine E.plan_eff (by simp only [List.getElem?_toArray, List.getElem?_cons_succ, List.getElem?_cons_zero]; rfl) (by rfl) (fun K hK => ?_); (go_simp; try go_bits)
        refine (less14_any (l[n]) (l[k]) _).mono ?_; rintro e w1 ⟨rfl, hx1⟩; refine hK _ _ hx1 ?_; clear hK K
        rw [HQ.out]
        repeat (first | (refine E.plan_pure (by simp only [List.getElem?_toArray, List.getElem?_cons_succ, List.getElem?_cons_zero]; rfl) (by rfl) (fun K hK => ?_); (go_simp; try go_bits; try go_simp); refine hK _ ?_; clear hK K) | (refine E.plan_load (by simp only [List.getElem?_toArray, List.getElem?_cons_succ, List.getElem?_cons_zero]; rfl) (by rfl) (by rfl) (fun K hK => ?_); (go_simp; try go_bits; try go_simp); refine hK _ ?_; clear hK K) | (refine E.plan_skip (E.Ext.refl _) (by simp only [List.getElem?_toArray, List.getElem?_cons_succ, List.getElem?_cons_zero]; rfl) (by rfl) (fun K hK => ?_); (go_simp; try go_bits; try go_simp); refine hK _ ?_; clear hK K))
        refine E.plan_nil ?_
        go_wp2_with fail
        go_roundw
        case rel => exact ⟨k + 1, by go_num, by omega, Or.inl (by omega), (hx.trans (E.Ext.drew _)).trans hx1, fun i x y hi hx' hy' => by
          by_cases hin : i = n
          · subst hin
            rw [HLN.out] at hx'
            rw [← HNK.out, HLK.out] at hy'
            cases hx'
            cases hy'
            exact HQ.out
          · exact HNO.out i x y (by omega) hx' hy'⟩
        case measure => simp [intOf]; omega
      | false =>
        have HQ := Lib.hid hq
        go_wp2_with fail
        refine E.wp_plan E.ext_pre 1000000 [(0, true), (1, true), (2, true), (3, true), (4, true), (5, true), (6, true), (7, true), (8, true), (9, false), (10, true)] (by kernel_rfl) (by kernel_rfl) ?_
        repeat (first | (refine E.plan_pure (by simp only [List.getElem?_toArray, List.getElem?_cons_succ, List.getElem?_cons_zero]; rfl) (by rfl) (fun K hK => ?_); (go_simp; try go_bits; try go_simp); refine hK _ ?_; clear hK K) | (refine E.plan_load (by simp only [List.getElem?_toArray, List.getElem?_cons_succ, List.getElem?_cons_zero]; rfl) (by rfl) (by rfl) (fun K hK => ?_); (go_simp; try go_bits; try go_simp); refine hK _ ?_; clear hK K) | (refine E.plan_skip (E.Ext.refl _) (by simp only [List.getElem?_toArray, List.getElem?_cons_succ, List.getElem?_cons_zero]; rfl) (by rfl) (fun K hK => ?_); (go_simp; try go_bits; try go_simp); refine hK _ ?_; clear hK K))
        refine E.plan_eff (by simp only [List.getElem?_toArray, List.getElem?_cons_succ, List.getElem?_cons_zero]; rfl) (by rfl) (fun K hK => ?_); (go_simp; try go_bits)
        refine (less14_any (l[n]) (l[k]) _).mono ?_; rintro e w1 ⟨rfl, hx1⟩; refine hK _ _ hx1 ?_; clear hK K
        rw [HQ.out]
        repeat (first | (refine E.plan_pure (by simp only [List.getElem?_toArray, List.getElem?_cons_succ, List.getElem?_cons_zero]; rfl) (by rfl) (fun K hK => ?_); (go_simp; try go_bits; try go_simp); refine hK _ ?_; clear hK K) | (refine E.plan_load (by simp only [List.getElem?_toArray, List.getElem?_cons_succ, List.getElem?_cons_zero]; rfl) (by rfl) (by rfl) (fun K hK => ?_); (go_simp; try go_bits; try go_simp); refine hK _ ?_; clear hK K) | (refine E.plan_skip (E.Ext.refl _) (by simp only [List.getElem?_toArray, List.getElem?_cons_succ, List.getElem?_cons_zero]; rfl) (by rfl) (fun K hK => ?_); (go_simp; try go_bits; try go_simp); refine hK _ ?_; clear hK K))
        refine E.plan_nil ?_
        go_wp2_with fail
        go_ret
        have hnu : upB l = false := upB_not (fun hu => by
          have := hu n k _ _ (by have := HNK.out; omega) HLN.out HLK.out
          rw [HQ.out] at this
          cases this)
        exact ⟨by rw [hnu]; rfl, (hx.trans (E.Ext.drew _)).trans hx1⟩
    · go_wp2_with fail
      go_ret
      have hu : upB l = true := upB_iff.2 (up_of_adj (fun i x y hx' hy' => HNO.out i x y (by
        have h1 := (List.getElem?_eq_some_iff.1 hy').1
        rcases HK2.out with h2 | h2 <;> omega) hx' hy'))
      exact ⟨by rw [hu]; rfl, hx⟩

theorem kpos_of {l : List Key} {k : Key} {n : Nat} (h : ∀ (j : Nat) x, j < n → l[j]? = some x → x.lt k = true) (he : l.length ≤ n ∨ ∃ y, l[n]? = some y ∧ y.lt k = false) (hk : n ≤ l.length) : kpos l k = n := by
  have ha : kpos l k ≤ n := by
    rcases Nat.lt_or_ge n (kpos l k) with h1 | h1
    · rcases he with h2 | ⟨y, h2, h3⟩
      · have := tw_le (fun x : Key => x.lt k) l
        unfold kpos at h1
        omega
      · have := tw_lt (q := fun x : Key => x.lt k) h2 h1
        rw [h3] at this
        cases this
    · exact h1
  rcases Nat.lt_or_ge (kpos l k) n with h1 | h1
  · have hx : l[kpos l k]? = some (l[kpos l k]'(by omega)) := List.getElem?_eq_getElem (by omega)
    have h2 := tw_at (q := fun x : Key => x.lt k) hx
    rw [h _ _ h1 hx] at h2
    cases h2
  · omega
theorem kpos_le (l : List Key) (k : Key) : kpos l k ≤ l.length := tw_le _ _
set_option maxHeartbeats 1600000 in
theorem findR_up (l : List Key) (A : Option Addr) (c : Nat) (k : Key) (w : World) (h : Sl w 3 A l.length c (keyCells l)) (hl : l.length ≤ 1099511627776) (hu : Up l) :
    Calls Try.prog 49 #[.slice A l.length c, k.val] w fun e w' => e = .returned (.tuple #[.int .i64 (kpos l k), .bool (decide (l[kpos l k]? = some k))]) ∧ E.Ext w w' := by
  have HUB := Lib.hid (upB_iff.2 hu)
  clear hu
  have h0 := h.ext (E.Ext.alloc w (.cells #[.int .i64 k.stamp, .int .i64 k.sensor, .int .i64 k.seq] 28))
  unfold Key.val
  go_enter Try.func49, Try.ntmps49
  go_wp2_with fail
  refine (risingR_any l A c _ h0 hl).mono ?_
  rintro e w1 ⟨rfl, hx1⟩
  rw [HUB.out]
  have h1 := h0.ext hx1
  have T1 := E.blk0 hx1 rfl
  have hxw1 := (E.Ext.alloc w (.cells #[.int .i64 k.stamp, .int .i64 k.sensor, .int .i64 k.seq] 28)).trans hx1
  go_wp2_with fail
  go_loopw [6] (fun v wr => ∃ i : Nat, v = .int .i64 i ∧ i ≤ l.length ∧ E.Ext w1 wr ∧ ∀ (j : Nat) x, j < i → l[j]? = some x → x.lt k = true) (fun v _ => l.length - (intOf v).toNat)
  case atStart => exact ⟨0, rfl, Nat.zero_le _, E.Ext.refl _, fun j x hj => by omega⟩
  case round =>
    obtain ⟨i, rfl, hi, hx, hno⟩ := hrel
    have HNO := Lib.hid hno
    clear hno
    have T2 := (T1.ext hx).drew
    obtain ⟨cT, fT⟩ := T2.facts
    by_cases hlt : i < l.length
    · obtain ⟨b, o, rfl, k0, k1, k2⟩ := key_at (h1.ext hx) (k := i) hlt
      have hli : l[i]? = some l[i] := List.getElem?_eq_getElem hlt
      have HLI := Lib.hid hli
      clear hli
      cases hq : (l[i]'hlt).lt k with
      | true =>
        have HQ := Lib.hid hq
        go_wp2_with fail
        refine E.wp_plan E.ext_pre 1000000 [(0, true), (1, true), (2, true), (3, true), (4, true), (5, true), (6, true), (7, true), (8, true), (9, true), (10, false), (11, true)] (by kernel_rfl) (by kernel_rfl) ?_
        repeat (first | (refine E.plan_pure (by simp only [List.getElem?_toArray, List.getElem?_cons_succ, List.getElem?_cons_zero]; rfl) (by rfl) (fun K hK => ?_); (go_simp; try go_bits; try go_simp); refine hK _ ?_; clear hK K) | (refine E.plan_load (by simp only [List.getElem?_toArray, List.getElem?_cons_succ, List.getElem?_cons_zero]; rfl) (by rfl) (by rfl) (fun K hK => ?_); (go_simp; try go_bits; try go_simp); refine hK _ ?_; clear hK K) | (refine E.plan_skip (E.Ext.refl _) (by simp only [List.getElem?_toArray, List.getElem?_cons_succ, List.getElem?_cons_zero]; rfl) (by rfl) (fun K hK => ?_); (go_simp; try go_bits; try go_simp); refine hK _ ?_; clear hK K))
        refine E.plan_eff (by simp only [List.getElem?_toArray, List.getElem?_cons_succ, List.getElem?_cons_zero]; rfl) (by rfl) (fun K hK => ?_); (go_simp; try go_bits)
        refine (less14_any (l[i]) k _).mono ?_; rintro e w2 ⟨rfl, hx2⟩; refine hK _ _ hx2 ?_; clear hK K
        rw [HQ.out]
        repeat (first | (refine E.plan_pure (by simp only [List.getElem?_toArray, List.getElem?_cons_succ, List.getElem?_cons_zero]; rfl) (by rfl) (fun K hK => ?_); (go_simp; try go_bits; try go_simp); refine hK _ ?_; clear hK K) | (refine E.plan_load (by simp only [List.getElem?_toArray, List.getElem?_cons_succ, List.getElem?_cons_zero]; rfl) (by rfl) (by rfl) (fun K hK => ?_); (go_simp; try go_bits; try go_simp); refine hK _ ?_; clear hK K) | (refine E.plan_skip (E.Ext.refl _) (by simp only [List.getElem?_toArray, List.getElem?_cons_succ, List.getElem?_cons_zero]; rfl) (by rfl) (fun K hK => ?_); (go_simp; try go_bits; try go_simp); refine hK _ ?_; clear hK K))
        refine E.plan_nil ?_
        go_wp2_with fail
        go_roundw
        case rel => exact ⟨i + 1, by go_num, by omega, (hx.trans (E.Ext.drew _)).trans hx2, fun j x hj hx' => by
          by_cases hji : j = i
          · subst hji
            rw [HLI.out] at hx'
            cases hx'
            exact HQ.out
          · exact HNO.out j x (by omega) hx'⟩
        case measure => simp [intOf]; omega
      | false =>
        have HQ := Lib.hid hq
        have hp : kpos l k = i := kpos_of HNO.out (Or.inr ⟨_, HLI.out, HQ.out⟩) hi
        have HP := Lib.hid hp
        clear hp
        go_wp2_with fail
        refine E.wp_plan E.ext_pre 1000000 [(0, true), (1, true), (2, true), (3, true), (4, true), (5, true), (6, true), (7, true), (8, true), (9, true), (10, false), (11, true)] (by kernel_rfl) (by kernel_rfl) ?_
        repeat (first | (refine E.plan_pure (by simp only [List.getElem?_toArray, List.getElem?_cons_succ, List.getElem?_cons_zero]; rfl) (by rfl) (fun K hK => ?_); (go_simp; try go_bits; try go_simp); refine hK _ ?_; clear hK K) | (refine E.plan_load (by simp only [List.getElem?_toArray, List.getElem?_cons_succ, List.getElem?_cons_zero]; rfl) (by rfl) (by rfl) (fun K hK => ?_); (go_simp; try go_bits; try go_simp); refine hK _ ?_; clear hK K) | (refine E.plan_skip (E.Ext.refl _) (by simp only [List.getElem?_toArray, List.getElem?_cons_succ, List.getElem?_cons_zero]; rfl) (by rfl) (fun K hK => ?_); (go_simp; try go_bits; try go_simp); refine hK _ ?_; clear hK K))
        refine E.plan_eff (by simp only [List.getElem?_toArray, List.getElem?_cons_succ, List.getElem?_cons_zero]; rfl) (by rfl) (fun K hK => ?_); (go_simp; try go_bits)
        refine (less14_any (l[i]) k _).mono ?_; rintro e w2 ⟨rfl, hx2⟩; refine hK _ _ hx2 ?_; clear hK K
        rw [HQ.out]
        repeat (first | (refine E.plan_pure (by simp only [List.getElem?_toArray, List.getElem?_cons_succ, List.getElem?_cons_zero]; rfl) (by rfl) (fun K hK => ?_); (go_simp; try go_bits; try go_simp); refine hK _ ?_; clear hK K) | (refine E.plan_load (by simp only [List.getElem?_toArray, List.getElem?_cons_succ, List.getElem?_cons_zero]; rfl) (by rfl) (by rfl) (fun K hK => ?_); (go_simp; try go_bits; try go_simp); refine hK _ ?_; clear hK K) | (refine E.plan_skip (E.Ext.refl _) (by simp only [List.getElem?_toArray, List.getElem?_cons_succ, List.getElem?_cons_zero]; rfl) (by rfl) (fun K hK => ?_); (go_simp; try go_bits; try go_simp); refine hK _ ?_; clear hK K))
        refine E.plan_nil ?_
        have hx02 := (hx.trans (E.Ext.drew _)).trans hx2
        obtain ⟨b', o', hA, m0, m1, m2⟩ := key_at (h1.ext hx02) (k := i) hlt
        cases hA
        clear k0 k1 k2 cT fT
        obtain ⟨cT, fT⟩ := ((T1.ext hx02).drew).facts
        have hk1 := fun w' x y xs ys => guardKey w' x y xs ys
        by_cases heq : l[i] = k
        · have hk2 := eqKey_yes heq
          have HE := Lib.hid heq
          clear heq
          dsimp only [Key.val] at hk2
          go_wp2_with fail
          refine E.wp_plan E.ext_pre 1000000 [(0, true), (1, true), (2, true), (3, true), (4, true), (5, true), (6, true), (7, true), (8, true), (9, true), (10, true), (11, true), (12, true), (13, true), (14, true)] (by kernel_rfl) (by kernel_rfl) ?_
          repeat (first | (refine E.plan_pure (by simp only [List.getElem?_toArray, List.getElem?_cons_succ, List.getElem?_cons_zero]; rfl) (by rfl) (fun K hK => ?_); (go_simp; try go_bits; try go_simp); refine hK _ ?_; clear hK K) | (refine E.plan_load (by simp only [List.getElem?_toArray, List.getElem?_cons_succ, List.getElem?_cons_zero]; rfl) (by rfl) (by rfl) (fun K hK => ?_); (go_simp; try go_bits; try go_simp); refine hK _ ?_; clear hK K) | (refine E.plan_skip (E.Ext.refl _) (by simp only [List.getElem?_toArray, List.getElem?_cons_succ, List.getElem?_cons_zero]; rfl) (by rfl) (fun K hK => ?_); (go_simp; try go_bits; try go_simp); refine hK _ ?_; clear hK K))
          refine E.plan_nil ?_
          go_wp2_with fail
          go_ret2
          exact ⟨by rw [HP.out, HLI.out, HE.out]; simp, hxw1.trans (hx02.trans (E.Ext.drew _))⟩
        · have hk2 := eqKey_no heq
          have HE := Lib.hid heq
          clear heq
          dsimp only [Key.val] at hk2
          go_wp2_with fail
          refine E.wp_plan E.ext_pre 1000000 [(0, true), (1, true), (2, true), (3, true), (4, true), (5, true), (6, true), (7, true), (8, true), (9, true), (10, true), (11, true), (12, true), (13, true), (14, true)] (by kernel_rfl) (by kernel_rfl) ?_
          repeat (first | (refine E.plan_pure (by simp only [List.getElem?_toArray, List.getElem?_cons_succ, List.getElem?_cons_zero]; rfl) (by rfl) (fun K hK => ?_); (go_simp; try go_bits; try go_simp); refine hK _ ?_; clear hK K) | (refine E.plan_load (by simp only [List.getElem?_toArray, List.getElem?_cons_succ, List.getElem?_cons_zero]; rfl) (by rfl) (by rfl) (fun K hK => ?_); (go_simp; try go_bits; try go_simp); refine hK _ ?_; clear hK K) | (refine E.plan_skip (E.Ext.refl _) (by simp only [List.getElem?_toArray, List.getElem?_cons_succ, List.getElem?_cons_zero]; rfl) (by rfl) (fun K hK => ?_); (go_simp; try go_bits; try go_simp); refine hK _ ?_; clear hK K))
          refine E.plan_nil ?_
          go_wp2_with fail
          go_ret2
          exact ⟨by rw [HP.out, HLI.out]; simp [HE.out], hxw1.trans (hx02.trans (E.Ext.drew _))⟩
    · have hp : kpos l k = i := kpos_of HNO.out (Or.inl (by omega)) hi
      have HP := Lib.hid hp
      have hli : l[i]? = none := List.getElem?_eq_none (by omega)
      have HLI := Lib.hid hli
      clear hp hli
      go_wp2_with fail
      refine E.wp_plan E.ext_pre 1000000 [(0, true), (1, true), (2, true), (3, true), (4, true), (5, true), (6, true), (7, true), (8, true), (9, true), (10, false), (11, true)] (by kernel_rfl) (by kernel_rfl) ?_
      repeat (first | (refine E.plan_pure (by simp only [List.getElem?_toArray, List.getElem?_cons_succ, List.getElem?_cons_zero]; rfl) (by rfl) (fun K hK => ?_); (go_simp; try go_bits; try go_simp); refine hK _ ?_; clear hK K) | (refine E.plan_load (by simp only [List.getElem?_toArray, List.getElem?_cons_succ, List.getElem?_cons_zero]; rfl) (by rfl) (by rfl) (fun K hK => ?_); (go_simp; try go_bits; try go_simp); refine hK _ ?_; clear hK K) | (refine E.plan_skip (E.Ext.refl _) (by simp only [List.getElem?_toArray, List.getElem?_cons_succ, List.getElem?_cons_zero]; rfl) (by rfl) (fun K hK => ?_); (go_simp; try go_bits; try go_simp); refine hK _ ?_; clear hK K))
      refine E.plan_nil ?_
      go_wp2_with fail
      refine E.wp_plan E.ext_pre 1000000 [(0, true), (1, true), (2, true), (3, true), (4, true), (5, true), (6, true), (7, true), (8, true), (9, true), (10, true), (11, true), (12, true), (13, true), (14, true)] (by kernel_rfl) (by kernel_rfl) ?_
      repeat (first | (refine E.plan_pure (by simp only [List.getElem?_toArray, List.getElem?_cons_succ, List.getElem?_cons_zero]; rfl) (by rfl) (fun K hK => ?_); (go_simp; try go_bits; try go_simp); refine hK _ ?_; clear hK K) | (refine E.plan_load (by simp only [List.getElem?_toArray, List.getElem?_cons_succ, List.getElem?_cons_zero]; rfl) (by rfl) (by rfl) (fun K hK => ?_); (go_simp; try go_bits; try go_simp); refine hK _ ?_; clear hK K) | (refine E.plan_skip (E.Ext.refl _) (by simp only [List.getElem?_toArray, List.getElem?_cons_succ, List.getElem?_cons_zero]; rfl) (by rfl) (fun K hK => ?_); (go_simp; try go_bits; try go_simp); refine hK _ ?_; clear hK K))
      refine E.plan_nil ?_
      go_wp2_with fail
      go_ret2
      exact ⟨by rw [HP.out, HLI.out]; simp, hxw1.trans ((hx.trans (E.Ext.drew _)).trans (E.Ext.drew _))⟩

theorem newest_cons {x : Shelf} {k : Key} (h : x.keys[x.keys.length - 1]? = some k) : newest x = k.stamp := by
  unfold newest
  rw [List.getLast?_eq_getElem?, h]
theorem newest_nil {x : Shelf} (h : x.keys = []) : newest x = x.base := by
  unfold newest
  rw [h]
  rfl
set_option maxHeartbeats 400000 in
theorem newest_any (x : Shelf) (A : Option Addr) (c : Nat) (w : World) (h : Sl w 3 A x.keys.length c (keyCells x.keys)) (hl : x.keys.length ≤ 1099511627776) :
    Calls Try.prog 23 #[x.val A c] w fun e w' => e = .returned (.int .i64 (newest x)) ∧ E.Ext w w' := by
  have hcap := h.cap
  have hmax := h.max
  unfold Shelf.val
  by_cases h0 : x.keys.length = 0
  · have hb : ((x.keys.length : Int) == 0) = true := by simp [h0]
    have hn := newest_nil (List.eq_nil_of_length_eq_zero h0)
    have HN := Lib.hid hn
    clear hn h0
    go_enter Try.func23, Try.ntmps23
    go_wp2
    go_ret
    exact ⟨by rw [HN.out]; rfl, E.Ext.alloc _ _⟩
  · have hb : ((x.keys.length : Int) == 0) = false := by simp; exact fun e => h0 (by rw [e]; rfl)
    obtain ⟨n, hn⟩ : ∃ n : Nat, (x.keys.length : Int) - 1 = (n : Int) := ⟨x.keys.length - 1, by omega⟩
    have hnl : n < x.keys.length := by omega
    have hne := newest_cons (x := x) (k := x.keys[n]) (by rw [show x.keys.length - 1 = n by omega]; exact List.getElem?_eq_getElem hnl)
    have HNE := Lib.hid hne
    clear hne
    obtain ⟨b, o, rfl, k0, k1, k2⟩ := key_at (h.ext (E.Ext.alloc w (.cells #[.int .i64 x.base, .slice A x.keys.length c, .int .i64 x.clean] 26))) hnl
    go_enter Try.func23, Try.ntmps23
    go_wp2
    go_ret
    exact ⟨by rw [HNE.out]; rfl, E.Ext.alloc _ _⟩
set_option maxHeartbeats 400000 in
theorem newestR_any (x : Shelf) (A : Option Addr) (c : Nat) (w : World) (h : Sl w 3 A x.keys.length c (keyCells x.keys)) (hl : x.keys.length ≤ 1099511627776) :
    Calls Try.prog 24 #[x.val A c] w fun e w' => e = .returned (.int .i64 (newest x)) ∧ E.Ext w w' := by
  have hcap := h.cap
  have hmax := h.max
  unfold Shelf.val
  by_cases h0 : x.keys.length = 0
  · have hb : ((x.keys.length : Int) == 0) = true := by simp [h0]
    have hn := newest_nil (List.eq_nil_of_length_eq_zero h0)
    have HN := Lib.hid hn
    clear hn h0
    go_enter Try.func24, Try.ntmps24
    go_wp2
    go_ret
    exact ⟨by rw [HN.out]; rfl, E.Ext.alloc _ _⟩
  · have hb : ((x.keys.length : Int) == 0) = false := by simp; exact fun e => h0 (by rw [e]; rfl)
    obtain ⟨n, hn⟩ : ∃ n : Nat, (x.keys.length : Int) - 1 = (n : Int) := ⟨x.keys.length - 1, by omega⟩
    have hnl : n < x.keys.length := by omega
    have hne := newest_cons (x := x) (k := x.keys[n]) (by rw [show x.keys.length - 1 = n by omega]; exact List.getElem?_eq_getElem hnl)
    have HNE := Lib.hid hne
    clear hne
    obtain ⟨b, o, rfl, k0, k1, k2⟩ := key_at (h.ext (E.Ext.alloc w (.cells #[.int .i64 x.base, .slice A x.keys.length c, .int .i64 x.clean] 26))) hnl
    go_enter Try.func24, Try.ntmps24
    go_wp2
    go_ret
    exact ⟨by rw [HNE.out]; rfl, E.Ext.alloc _ _⟩
theorem full_any (s : Setup) (x : Shelf) (A : Option Addr) (c : Nat) (w : World) :
    Calls Try.prog 43 #[s.val, x.val A c] w fun e w' => e = .returned (.bool (fullB s x)) ∧ E.Ext w w' := by
  unfold Shelf.val Setup.val
  by_cases h : (x.keys.length : Int) = s.keep
  · have hb : ((x.keys.length : Int) == s.keep) = true := by simpa using h
    have hf : fullB s x = true := by unfold fullB; simpa using h
    clear h
    go_enter Try.func43, Try.ntmps43
    go_wp2
    go_ret
    exact ⟨by rw [hf]; rfl, (E.Ext.alloc _ _).trans (E.Ext.alloc _ _)⟩
  · have hb : ((x.keys.length : Int) == s.keep) = false := by simpa using h
    have hf : fullB s x = false := by unfold fullB; simpa using h
    clear h
    go_enter Try.func43, Try.ntmps43
    go_wp2
    go_ret
    exact ⟨by rw [hf]; rfl, (E.Ext.alloc _ _).trans (E.Ext.alloc _ _)⟩
end Go.Proofs.Ytedpkficechjnaa.AU
