/- slices.CompactFunc where keys stand twice; entry.Rising; entry.Find. -/
import Derived.Test.YtedpkficechjnaaKR
namespace Go.Proofs.Ytedpkficechjnaa.KS
open Go.RowKit
open Go.Proofs.Ytedpkficechjnaa
open Go.Proofs.Ytedpkficechjnaa.KA Go.Proofs.Ytedpkficechjnaa.K Go.Proofs.Ytedpkficechjnaa.KB Go.Proofs.Ytedpkficechjnaa.KI Go.Proofs.Ytedpkficechjnaa.KQ Go.Proofs.Ytedpkficechjnaa.S Go.Proofs.Ytedpkficechjnaa.KR
set_option linter.unusedVariables false
set_option linter.unusedSimpArgs false

theorem stzKey : STz Try.prog 24 28 3 24 (.agg #[.int .i64 0, .int .i64 0, .int .i64 0]) := by
  obtain ⟨i, hi, h1, h2, h3⟩ := info_parts Try_info57
  exact ⟨i, Try.underlying24, hi, h1, h2, h3, rfl, by decide, fun u hu => by simp [Value.cells] at hu; subst hu; rfl⟩

def Shrunk (w : World) (g c n : Nat) (e : Ending) (w' : World) : Prop :=
  ∃ m : Nat, e = .returned (.slice (some ⟨g, 0, none⟩) m c) ∧ m < n ∧ E.ExtS (fun k => k = g) w w'

set_option maxRecDepth 8000 in
set_option maxHeartbeats 1600000 in
theorem compact_no (l : List Key) (g c base : Nat) (w : World) (ho : w.ownsRow base 28 3 (.slice (some ⟨g, 0, none⟩) l.length c) l.length (keyCells l)) (hl : l.length ≤ 1099511627776) (hu : Dups l) :
    Calls Try.prog 58 #[.slice (some ⟨g, 0, none⟩) l.length c, .func (.func 59) #[] #[]] w (Shrunk w g c l.length) := by
  have HU := Lib.hid hu
  have hlen2 : 2 ≤ l.length := by
    obtain ⟨i, x, hx, hy⟩ := hu
    have := (List.getElem?_eq_some_iff.1 hy).1
    omega
  obtain ⟨A0, c0, hv0, h⟩ := own_sl ho
  cases hv0
  obtain ⟨cs, hB, hK, hnc⟩ := keyed_of ho
  have hmx := h.max
  have HKd := Lib.hid hK
  clear hu hK
  go_enter Try.func58, Try.ntmps58
  go_wp2
  go_loopw [5] (fun v wr => ∃ k : Nat, v = .int .i64 k ∧ 1 ≤ k ∧ k ≤ l.length ∧ E.Ext w wr ∧ ∀ (i : Nat) x, i + 1 < k → l[i]? = some x → ¬ l[i + 1]? = some x) (fun v _ => l.length - (intOf v).toNat)
  case atStart => exact ⟨1, rfl, Nat.le_refl _, by omega, E.Ext.refl _, fun i x hi => by omega⟩
  case round =>
    obtain ⟨k, rfl, hk1, hk2, hx, hno⟩ := hrel
    have HNO := Lib.hid hno
    clear hno
    by_cases hlt : k < l.length
    · obtain ⟨n, hn⟩ : ∃ n : Nat, (k : Int) - 1 = (n : Int) := ⟨k - 1, by omega⟩
      have hnl : n < l.length := by omega
      have hnk : k = n + 1 := by omega
      have HNK := Lib.hid hnk
      clear hnk
      obtain ⟨b, o, hA1, k0, k1, k2⟩ := key_at (h.ext hx) (k := k) (by omega)
      cases hA1
      obtain ⟨b', o', hA, m0, m1, m2⟩ := key_at (h.ext hx) (k := n) (by omega)
      cases hA
      simp only [Nat.zero_add] at k0 k1 k2 m0 m1 m2
      by_cases hne : l[k]'(by omega) = l[n]'(by omega)
      · have hdn : decide (l[k]'(by omega) = l[n]'(by omega)) = true := by simpa using hne
        clear hne
        have hck : ¬ c = k := by omega
        go_wp2_with fail
        refine E.wp_plan E.ext_pre 1000000 [(0, true), (1, true), (2, true), (3, true), (4, true), (5, true), (6, true), (7, true), (8, true), (9, true), (10, false)] (by kernel_rfl) (by kernel_rfl) ?_
        repeat (first | (refine E.plan_pure (by simp only [List.getElem?_toArray, List.getElem?_cons_succ, List.getElem?_cons_zero]; rfl) (by rfl) (fun K hK => ?_); (go_simp; try go_bits; try go_simp); refine hK _ ?_; clear hK K) | (refine E.plan_load (by simp only [List.getElem?_toArray, List.getElem?_cons_succ, List.getElem?_cons_zero]; rfl) (by rfl) (by rfl) (fun K hK => ?_); (go_simp; try go_bits; try go_simp); refine hK _ ?_; clear hK K) | (refine E.plan_skip (E.Ext.refl _) (by simp only [List.getElem?_toArray, List.getElem?_cons_succ, List.getElem?_cons_zero]; rfl) (by rfl) (fun K hK => ?_); (go_simp; try go_bits; try go_simp); refine hK _ ?_; clear hK K))
        refine E.plan_eff (by simp only [List.getElem?_toArray, List.getElem?_cons_succ, List.getElem?_cons_zero]; rfl) (by rfl) (fun K hK => ?_); (go_simp; try go_bits)
        refine (same_any (l[k]) (l[n]) _).mono ?_; rintro e w1 ⟨rfl, hx1⟩; refine hK _ _ hx1 ?_; clear hK K
        rw [hdn]
        repeat (first | (refine E.plan_pure (by simp only [List.getElem?_toArray, List.getElem?_cons_succ, List.getElem?_cons_zero]; rfl) (by rfl) (fun K hK => ?_); (go_simp; try go_bits; try go_simp); refine hK _ ?_; clear hK K) | (refine E.plan_load (by simp only [List.getElem?_toArray, List.getElem?_cons_succ, List.getElem?_cons_zero]; rfl) (by rfl) (by rfl) (fun K hK => ?_); (go_simp; try go_bits; try go_simp); refine hK _ ?_; clear hK K) | (refine E.plan_skip (E.Ext.refl _) (by simp only [List.getElem?_toArray, List.getElem?_cons_succ, List.getElem?_cons_zero]; rfl) (by rfl) (fun K hK => ?_); (go_simp; try go_bits; try go_simp); refine hK _ ?_; clear hK K))
        refine E.plan_nil ?_
        have hx01 := (hx.trans (E.Ext.drew _)).trans hx1
        have hB1 := hB.ext hx01
        clear k0 k1 k2 m0 m1 m2 hdn
        go_wp2_with fail
        go_loopw [5, 7] (fun p j wi => ∃ (P J : Nat) (cs' : Array Value), p = .int .i64 P ∧ j = .int .i64 J ∧ 1 ≤ J ∧ J ≤ l.length - k ∧ k ≤ P ∧ P + 1 ≤ k + J ∧ E.Blk wi g 28 cs' ∧ Keyed cs' l.length ∧ E.ExtS (fun i => i = g) w1 wi) (fun _ j _ => l.length - k - (intOf j).toNat)
        case atStart => exact ⟨k, 1, cs, rfl, rfl, Nat.le_refl _, by omega, Nat.le_refl _, by omega, hB1, HKd.out, E.ExtS.refl _ _⟩
        case round =>
          obtain ⟨P, J, cs', rfl, rfl, hJ1, hJ2, hP1, hP2, hBi, hKi, hxi⟩ := hrel
          have HKi := Lib.hid hKi
          clear hKi
          by_cases hJl : J < l.length - k
          · obtain ⟨m, hm⟩ : ∃ m : Nat, (J : Int) - 1 = (m : Int) := ⟨J - 1, by omega⟩
            obtain ⟨x, x0, x1, x2⟩ := HKi.out (k + J) (by omega)
            obtain ⟨y, y0, y1, y2⟩ := HKi.out (k + m) (by omega)
            rw [Nat.add_mul] at x0 x1 x2 y0 y1 y2
            have hps := HKi.out.size
            have hmJ : m < l.length - k := by omega
            have cB := hBi.cell
            have fB := hBi.frozen
            have hPl : P < l.length := by omega
            have hold0 : cs'[P * 3]? = some (cs'[P * 3]'(by omega)) := Array.getElem?_eq_getElem (by omega)
            have hold1 : cs'[P * 3 + 1]? = some (cs'[P * 3 + 1]'(by omega)) := Array.getElem?_eq_getElem (by omega)
            have hold2 : cs'[P * 3 + 2]? = some (cs'[P * 3 + 2]'(by omega)) := Array.getElem?_eq_getElem (by omega)
            generalize cs'[P * 3]'(by omega) = old0 at hold0
            generalize cs'[P * 3 + 1]'(by omega) = old1 at hold1
            generalize cs'[P * 3 + 2]'(by omega) = old2 at hold2
            clear hps
            by_cases heq : x = y
            · have hdn : decide (x = y) = true := by simpa using heq
              clear heq
              go_wp2_with fail
              refine E.wp_plan E.ext_pre 1000000 [(0, true), (1, true), (2, true), (3, true), (4, true), (5, true), (6, true), (7, true), (8, true), (9, true), (10, false), (11, true)] (by kernel_rfl) (by kernel_rfl) ?_
              repeat (first | (refine E.plan_pure (by simp only [List.getElem?_toArray, List.getElem?_cons_succ, List.getElem?_cons_zero]; rfl) (by rfl) (fun K hK => ?_); (go_simp; try go_bits; try go_simp); refine hK _ ?_; clear hK K) | (refine E.plan_load (by simp only [List.getElem?_toArray, List.getElem?_cons_succ, List.getElem?_cons_zero]; rfl) (by rfl) (by rfl) (fun K hK => ?_); (go_simp; try go_bits; try go_simp); refine hK _ ?_; clear hK K) | (refine E.plan_skip (E.Ext.refl _) (by simp only [List.getElem?_toArray, List.getElem?_cons_succ, List.getElem?_cons_zero]; rfl) (by rfl) (fun K hK => ?_); (go_simp; try go_bits; try go_simp); refine hK _ ?_; clear hK K))
              refine E.plan_eff (by simp only [List.getElem?_toArray, List.getElem?_cons_succ, List.getElem?_cons_zero]; rfl) (by rfl) (fun K hK => ?_); (go_simp; try go_bits)
              refine (same_any x y _).mono ?_; rintro e w2 ⟨rfl, hx2⟩; refine hK _ _ hx2 ?_; clear hK K
              rw [hdn]
              repeat (first | (refine E.plan_pure (by simp only [List.getElem?_toArray, List.getElem?_cons_succ, List.getElem?_cons_zero]; rfl) (by rfl) (fun K hK => ?_); (go_simp; try go_bits; try go_simp); refine hK _ ?_; clear hK K) | (refine E.plan_load (by simp only [List.getElem?_toArray, List.getElem?_cons_succ, List.getElem?_cons_zero]; rfl) (by rfl) (by rfl) (fun K hK => ?_); (go_simp; try go_bits; try go_simp); refine hK _ ?_; clear hK K) | (refine E.plan_skip (E.Ext.refl _) (by simp only [List.getElem?_toArray, List.getElem?_cons_succ, List.getElem?_cons_zero]; rfl) (by rfl) (fun K hK => ?_); (go_simp; try go_bits; try go_simp); refine hK _ ?_; clear hK K))
              refine E.plan_nil ?_
              have hx02 := (E.Ext.drew _).trans hx2
              go_wp2_with fail
              go_roundw
              case rel => exact ⟨P, J + 1, cs', rfl, by go_num, by omega, by omega, hP1, by omega, hBi.ext hx02, HKi.out, hxi.trans (hx02.toS _)⟩
              case measure => simp [intOf]; omega
            · have hdn : decide (x = y) = false := by simpa using heq
              clear heq
              go_wp2_with fail
              refine E.wp_plan E.ext_pre 1000000 [(0, true), (1, true), (2, true), (3, true), (4, true), (5, true), (6, true), (7, true), (8, true), (9, true), (10, false), (11, true)] (by kernel_rfl) (by kernel_rfl) ?_
              repeat (first | (refine E.plan_pure (by simp only [List.getElem?_toArray, List.getElem?_cons_succ, List.getElem?_cons_zero]; rfl) (by rfl) (fun K hK => ?_); (go_simp; try go_bits; try go_simp); refine hK _ ?_; clear hK K) | (refine E.plan_load (by simp only [List.getElem?_toArray, List.getElem?_cons_succ, List.getElem?_cons_zero]; rfl) (by rfl) (by rfl) (fun K hK => ?_); (go_simp; try go_bits; try go_simp); refine hK _ ?_; clear hK K) | (refine E.plan_skip (E.Ext.refl _) (by simp only [List.getElem?_toArray, List.getElem?_cons_succ, List.getElem?_cons_zero]; rfl) (by rfl) (fun K hK => ?_); (go_simp; try go_bits; try go_simp); refine hK _ ?_; clear hK K))
              refine E.plan_eff (by simp only [List.getElem?_toArray, List.getElem?_cons_succ, List.getElem?_cons_zero]; rfl) (by rfl) (fun K hK => ?_); (go_simp; try go_bits)
              refine (same_any x y _).mono ?_; rintro e w2 ⟨rfl, hx2⟩; refine hK _ _ hx2 ?_; clear hK K
              rw [hdn]
              repeat (first | (refine E.plan_pure (by simp only [List.getElem?_toArray, List.getElem?_cons_succ, List.getElem?_cons_zero]; rfl) (by rfl) (fun K hK => ?_); (go_simp; try go_bits; try go_simp); refine hK _ ?_; clear hK K) | (refine E.plan_load (by simp only [List.getElem?_toArray, List.getElem?_cons_succ, List.getElem?_cons_zero]; rfl) (by rfl) (by rfl) (fun K hK => ?_); (go_simp; try go_bits; try go_simp); refine hK _ ?_; clear hK K) | (refine E.plan_skip (E.Ext.refl _) (by simp only [List.getElem?_toArray, List.getElem?_cons_succ, List.getElem?_cons_zero]; rfl) (by rfl) (fun K hK => ?_); (go_simp; try go_bits; try go_simp); refine hK _ ?_; clear hK K))
              refine E.plan_nil ?_
              have hx02 := (E.Ext.drew _).trans hx2
              have hB2 := hBi.ext hx02
              clear cB fB
              have cB := hB2.cell
              have fB := hB2.frozen
              go_wp2_with fail
              go_roundw
              case rel => exact ⟨P + 1, J + 1, _, by go_num, by go_num, by omega, by omega, by omega, by omega, ((hB2.set (P * 3) _).set (P * 3 + 1) _).set (P * 3 + 2) _, HKi.out.put x hPl, (((hxi.trans (hx02.toS _)).set (p := ⟨g, P * 3, none⟩) (Or.inl rfl) _).set (p := ⟨g, P * 3 + 1, none⟩) (Or.inl rfl) _).set (p := ⟨g, P * 3 + 2, none⟩) (Or.inl rfl) _⟩
              case measure => simp [intOf]; omega
          · have hJe : J = l.length - k := by omega
            have hPl : P < l.length := by omega
            have hPc : ¬ c = P := by omega
            have hps := HKi.out.size
            obtain ⟨wc, hcl, csc, hBc, _, _, hxc⟩ := run_clear_blk stzKey (o := P * 3) (n := l.length - P) (c := c - P) hBi (by omega) (by omega)
            clear hJe hps
            go_wp2_with fail
            go_ret
            exact ⟨P, rfl, hPl, ((hx01.toS _).trans hxi).trans hxc⟩
      · have hdn : decide (l[k]'(by omega) = l[n]'(by omega)) = false := by simpa using hne
        have HNE := Lib.hid hne
        clear hne
        go_wp2_with fail
        refine E.wp_plan E.ext_pre 1000000 [(0, true), (1, true), (2, true), (3, true), (4, true), (5, true), (6, true), (7, true), (8, true), (9, true), (10, false)] (by kernel_rfl) (by kernel_rfl) ?_
        repeat (first | (refine E.plan_pure (by simp only [List.getElem?_toArray, List.getElem?_cons_succ, List.getElem?_cons_zero]; rfl) (by rfl) (fun K hK => ?_); (go_simp; try go_bits; try go_simp); refine hK _ ?_; clear hK K) | (refine E.plan_load (by simp only [List.getElem?_toArray, List.getElem?_cons_succ, List.getElem?_cons_zero]; rfl) (by rfl) (by rfl) (fun K hK => ?_); (go_simp; try go_bits; try go_simp); refine hK _ ?_; clear hK K) | (refine E.plan_skip (E.Ext.refl _) (by simp only [List.getElem?_toArray, List.getElem?_cons_succ, List.getElem?_cons_zero]; rfl) (by rfl) (fun K hK => ?_); (go_simp; try go_bits; try go_simp); refine hK _ ?_; clear hK K))
        refine E.plan_eff (by simp only [List.getElem?_toArray, List.getElem?_cons_succ, List.getElem?_cons_zero]; rfl) (by rfl) (fun K hK => ?_); (go_simp; try go_bits)
        refine (same_any (l[k]) (l[n]) _).mono ?_; rintro e w1 ⟨rfl, hx1⟩; refine hK _ _ hx1 ?_; clear hK K
        rw [hdn]
        repeat (first | (refine E.plan_pure (by simp only [List.getElem?_toArray, List.getElem?_cons_succ, List.getElem?_cons_zero]; rfl) (by rfl) (fun K hK => ?_); (go_simp; try go_bits; try go_simp); refine hK _ ?_; clear hK K) | (refine E.plan_load (by simp only [List.getElem?_toArray, List.getElem?_cons_succ, List.getElem?_cons_zero]; rfl) (by rfl) (by rfl) (fun K hK => ?_); (go_simp; try go_bits; try go_simp); refine hK _ ?_; clear hK K) | (refine E.plan_skip (E.Ext.refl _) (by simp only [List.getElem?_toArray, List.getElem?_cons_succ, List.getElem?_cons_zero]; rfl) (by rfl) (fun K hK => ?_); (go_simp; try go_bits; try go_simp); refine hK _ ?_; clear hK K))
        refine E.plan_nil ?_
        go_wp2_with fail
        go_roundw
        case rel => exact ⟨k + 1, by go_num, by omega, by omega, (hx.trans (E.Ext.drew _)).trans hx1, fun i x hi hx' hy' => by
          by_cases hin : i = n
          · subst hin
            rw [← HNK.out] at hy'
            rw [List.getElem?_eq_getElem (by omega)] at hx' hy'
            have h1 := Option.some.inj hx'
            have h2 := Option.some.inj hy'
            exact HNE.out (h2.trans h1.symm)
          · exact HNO.out i x (by omega) hx' hy'⟩
        case measure => simp [intOf]; omega
    · exfalso
      obtain ⟨i, x, hx', hy'⟩ := HU.out
      exact HNO.out i x (by have := (List.getElem?_eq_some_iff.1 hy').1; omega) hx' hy'

set_option maxHeartbeats 400000 in
theorem rising_no (l : List Key) (A : Option Addr) (c : Nat) (w : World) (h : Sl w 3 A l.length c (keyCells l)) (hl : l.length ≤ 1099511627776) (hu : ¬ Up l) :
    Calls Try.prog 45 #[.slice A l.length c] w fun e w' => e = .returned (.bool false) ∧ E.Ext w w' := by
  by_cases ha : Asc l
  · have hd : Dups l := Classical.byContradiction fun hd => hu (up_of ha hd)
    have hlen2 : 2 ≤ l.length := by
      obtain ⟨i, x, hx, hy⟩ := hd
      have := (List.getElem?_eq_some_iff.1 hy).1
      omega
    have HA := Lib.hid ha
    have HD := Lib.hid hd
    clear ha hu hd
    go_enter Try.func45, Try.ntmps45
    go_wp2_with fail
    refine (isSorted_asc l A c _ h hl HA.out).mono ?_
    rintro e w1 ⟨rfl, hx1⟩
    go_wp2_with fail
    refine (clone_keys l A c _ (h.ext hx1) hl).mono ?_
    rintro e w2 ⟨A2, c2, rfl, hx2, ho⟩
    obtain ⟨g, c3, cs, hv, hg, hB, _⟩ : ∃ g c cs, Value.slice A2 l.length c2 = .slice (some ⟨g, 0, none⟩) l.length c ∧ w1.heap.size ≤ g ∧ E.Blk w2 g 28 cs ∧ l.length * 3 ≤ cs.size := by
      rcases ho.2 with ⟨_, h0⟩ | ⟨g, cap, cur, hv, hb, hg, hnc, _, hcs, _⟩
      · omega
      · exact ⟨g, cap, cur, hv, hb, hg, by rw [hcs]; exact Nat.mul_le_mul_right _ hnc⟩
    have hcc : A2 = some ⟨g, 0, none⟩ ∧ c2 = c3 := by injection hv with h1 _ h3; exact ⟨h1, h3⟩
    obtain ⟨rfl, rfl⟩ := hcc
    clear hv
    go_wp2_with fail
    refine (compact_no l g c2 _ _ ho hl HD.out).mono ?_
    rintro e w3 ⟨m, rfl, hm, hx3⟩
    have hmb : ((m : Int) == (l.length : Int)) = false := by simp; omega
    have hmd : decide (m = l.length) = false := by simp; omega
    go_wp2_with fail
    go_ret
    exact ⟨by first | (simp; done) | (simp; omega), E.Ext.thenS (hx1.trans hx2) hx3 (fun k hk e => by have e' : k = g := e; have := hx1.size; omega)⟩
  · have HA := Lib.hid ha
    clear ha hu
    go_enter Try.func45, Try.ntmps45
    go_wp2_with fail
    refine (isSorted_no l A c _ h hl HA.out).mono ?_
    rintro e w1 ⟨rfl, hx1⟩
    go_wp2_with fail
    go_ret
    exact ⟨rfl, hx1⟩
theorem rising_any (l : List Key) (A : Option Addr) (c : Nat) (w : World) (h : Sl w 3 A l.length c (keyCells l)) (hl : l.length ≤ 1099511627776) :
    Calls Try.prog 45 #[.slice A l.length c] w fun e w' => e = .returned (.bool (upB l)) ∧ E.Ext w w' := by
  by_cases hu : Up l
  · rw [upB_iff.2 hu]; exact rising_yes l A c w h hl hu
  · rw [upB_not hu]; exact rising_no l A c w h hl hu
end Go.Proofs.Ytedpkficechjnaa.KS
