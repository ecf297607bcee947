/- The document's Fits; Floor of both. -/
import Derived.Test.YtedpkficechjnaaAV
namespace Go.Proofs.Ytedpkficechjnaa.AW
open Go.RowKit
open Go.Proofs.Ytedpkficechjnaa
open Go.Proofs.Ytedpkficechjnaa.KA Go.Proofs.Ytedpkficechjnaa.K Go.Proofs.Ytedpkficechjnaa.KB Go.Proofs.Ytedpkficechjnaa.KI Go.Proofs.Ytedpkficechjnaa.KQ Go.Proofs.Ytedpkficechjnaa.S Go.Proofs.Ytedpkficechjnaa.KR Go.Proofs.Ytedpkficechjnaa.KS Go.Proofs.Ytedpkficechjnaa.KT Go.Proofs.Ytedpkficechjnaa.KO Go.Proofs.Ytedpkficechjnaa.AS Go.Proofs.Ytedpkficechjnaa.AT Go.Proofs.Ytedpkficechjnaa.AU Go.Proofs.Ytedpkficechjnaa.AV
set_option linter.unusedVariables false
set_option linter.unusedSimpArgs false

set_option maxRecDepth 8000 in
set_option maxHeartbeats 3200000 in
theorem fitsR_any (s : Setup) (x : Shelf) (A : Option Addr) (c : Nat) (w : World) (h : Sl w 3 A x.keys.length c (keyCells x.keys)) (hl : x.keys.length ≤ 1099511627776) :
    Calls Try.prog 22 #[s.val, x.val A c] w fun e w' => e = .returned (.int .i64 (fitsE s x)) ∧ E.Ext w w' := by
  have hcap := h.cap
  have hmax := h.max
  have hx0 := (E.Ext.alloc w (.cells #[.int .i64 s.keep, .int .i64 s.horizon, .int .i64 s.ahead, .int .i64 s.budget, .int .i64 s.window] 23)).trans (E.Ext.alloc _ (.cells #[.int .i64 x.base, .slice A x.keys.length c, .int .i64 x.clean] 26))
  unfold Shelf.val Setup.val
  go_enter Try.func22, Try.ntmps22
  go_wp2_with fail
  refine (checkR_any s _).mono ?_
  rintro e w1 ⟨rfl, hx1⟩
  have H1 := E.blk1 hx1 rfl
  have H2 := E.blk0 hx1 rfl
  simp only [World.size_alloc] at H2
  obtain ⟨c1, f1⟩ := H1.facts
  obtain ⟨c2, f2⟩ := H2.facts
  have hx01 := hx0.trans hx1
  cases h1 : checkB s with
  | false =>
    have HN := Lib.hid (not_fits (s := s) (x := x) (Or.inl h1))
    go_wp2_with fail
    go_ret
    exact ⟨by rw [HN.out]; rfl, hx01⟩
  | true =>
    go_wp2_with fail
    refine (withinR_any _ _ _ _).mono ?_
    rintro e w' ⟨rfl, rfl⟩
    cases h2 : win x.base 0 1099511627776 with
    | false =>
      have HN := Lib.hid (not_fits (s := s) (x := x) (Or.inr (Or.inl h2)))
      go_wp2_with fail
      go_ret
      exact ⟨by rw [HN.out]; rfl, hx01⟩
    | true =>
      by_cases h3 : (x.keys.length : Int) ≤ s.keep
      · go_wp2_with fail
        refine (withinR_any _ _ _ _).mono ?_
        rintro e w' ⟨rfl, rfl⟩
        cases h4 : win x.clean 0 x.keys.length with
        | false =>
          have HN := Lib.hid (not_fits (s := s) (x := x) (Or.inr (Or.inr (Or.inr (Or.inl h4)))))
          go_wp2_with fail
          go_ret
          exact ⟨by rw [HN.out]; rfl, hx01⟩
        | true =>
          go_wp2_with fail
          refine (risingR_any x.keys A c _ (h.ext hx01) hl).mono ?_
          rintro e w2 ⟨rfl, hx2⟩
          clear c1 f1 c2 f2
          replace H1 := H1.ext hx2
          replace H2 := H2.ext hx2
          obtain ⟨c1, f1⟩ := H1.facts
          obtain ⟨c2, f2⟩ := H2.facts
          have hx02 := hx01.trans hx2
          cases h5 : upB x.keys with
          | false =>
            have HN := Lib.hid (not_fits (s := s) (x := x) (Or.inr (Or.inr (Or.inr (Or.inr (Or.inl h5))))))
            go_wp2_with fail
            go_ret
            exact ⟨by rw [HN.out]; rfl, hx02⟩
          | true =>
            go_wp2_with fail
            go_loopw [5] (fun v wr => ∃ i : Nat, v = .int .i64 i ∧ i ≤ x.keys.length ∧ E.Ext w2 wr ∧ ∀ (j : Nat) k, j < i → x.keys[j]? = some k → seatB x j k = true) (fun v _ => x.keys.length - (intOf v).toNat)
            case atStart => exact ⟨0, rfl, Nat.zero_le _, E.Ext.refl _, fun j k hj => by omega⟩
            case round =>
              clear c1 f1 c2 f2
              obtain ⟨i, rfl, hi, hx, hno⟩ := hrel
              have HNO := Lib.hid hno
              clear hno
              obtain ⟨c1, f1⟩ := (H1.ext hx).facts
              obtain ⟨c2, f2⟩ := (H2.ext hx).facts
              by_cases hlt : i < x.keys.length
              · obtain ⟨b, o, rfl, k0, k1, k2⟩ := key_at (h.ext (hx02.trans hx)) (k := i) hlt
                have hki : x.keys[i]? = some x.keys[i] := List.getElem?_eq_getElem hlt
                have HKI := Lib.hid hki
                clear hki
                have hsl := (ksl_at (ksl_take (h.ext (hx02.trans hx)) hi)).ext (E.Ext.drew _)
                have hslen : (x.keys.take i).length = i := by rw [List.length_take]; omega
                have hic : i ≤ c := by omega
                have htw := twinR_any (x.keys.take i) (some ⟨b, o, none⟩) c x.keys[i] _ hsl (by omega)
                rw [hslen] at htw
                have HTW := Lib.hid htw
                clear hslen htw hsl
                cases h6 : win x.keys[i].stamp x.base 1099511627776 with
                | false =>
                  have H6 := Lib.hid h6
                  clear h6
                  have HN := Lib.hid (not_fits (s := s) (x := x) (Or.inr (Or.inr (Or.inr (Or.inr (Or.inr ⟨i, _, HKI.out, Or.inl H6.out⟩))))))
                  go_wp2_with fail
                  refine E.wp_plan E.ext_pre 1000000 [(0, true), (1, true), (2, true), (3, true), (4, true), (5, true), (6, true), (7, true), (8, false), (9, true), (10, true), (11, true), (12, true), (13, true), (14, true), (15, true), (16, true), (17, true), (18, true), (19, true), (20, false), (21, true)] (by kernel_rfl) (by kernel_rfl) ?_
                  repeat (first | (refine E.plan_pure (by simp only [List.getElem?_toArray, List.getElem?_cons_succ, List.getElem?_cons_zero]; rfl) (by rfl) (fun K hK => ?_); (go_simp; try go_bits; try go_simp); refine hK _ ?_; clear hK K) | (refine E.plan_load (by simp only [List.getElem?_toArray, List.getElem?_cons_succ, List.getElem?_cons_zero]; rfl) (by rfl) (by rfl) (fun K hK => ?_); (go_simp; try go_bits; try go_simp); refine hK _ ?_; clear hK K) | (refine E.plan_skip (E.Ext.refl _) (by simp only [List.getElem?_toArray, List.getElem?_cons_succ, List.getElem?_cons_zero]; rfl) (by rfl) (fun K hK => ?_); (go_simp; try go_bits; try go_simp); refine hK _ ?_; clear hK K))
                  refine E.plan_eff (by simp only [List.getElem?_toArray, List.getElem?_cons_succ, List.getElem?_cons_zero]; rfl) (by rfl) (fun K hK => ?_); (go_simp; try go_bits)
                  refine (withinR_any _ _ _ _).mono ?_; rintro e w' ⟨rfl, rfl⟩; refine hK _ _ (E.Ext.refl _) ?_; clear hK K
                  rw [H6.out]
                  repeat (first | (refine E.plan_pure (by simp only [List.getElem?_toArray, List.getElem?_cons_succ, List.getElem?_cons_zero]; rfl) (by rfl) (fun K hK => ?_); (go_simp; try go_bits; try go_simp); refine hK _ ?_; clear hK K) | (refine E.plan_load (by simp only [List.getElem?_toArray, List.getElem?_cons_succ, List.getElem?_cons_zero]; rfl) (by rfl) (by rfl) (fun K hK => ?_); (go_simp; try go_bits; try go_simp); refine hK _ ?_; clear hK K) | (refine E.plan_skip (E.Ext.refl _) (by simp only [List.getElem?_toArray, List.getElem?_cons_succ, List.getElem?_cons_zero]; rfl) (by rfl) (fun K hK => ?_); (go_simp; try go_bits; try go_simp); refine hK _ ?_; clear hK K))
                  refine E.plan_nil ?_
                  go_wp2_with fail
                  go_ret
                  exact ⟨by rw [HN.out]; rfl, hx02.trans (hx.trans (E.Ext.drew _))⟩
                | true =>
                  have H6 := Lib.hid h6
                  clear h6
                  go_wp2_with fail
                  refine E.wp_plan E.ext_pre 1000000 [(0, true), (1, true), (2, true), (3, true), (4, true), (5, true), (6, true), (7, true), (8, false), (9, true), (10, true), (11, true), (12, true), (13, true), (14, true), (15, true), (16, true), (17, true), (18, true), (19, true), (20, false), (21, true)] (by kernel_rfl) (by kernel_rfl) ?_
                  repeat (first | (refine E.plan_pure (by simp only [List.getElem?_toArray, List.getElem?_cons_succ, List.getElem?_cons_zero]; rfl) (by rfl) (fun K hK => ?_); (go_simp; try go_bits; try go_simp); refine hK _ ?_; clear hK K) | (refine E.plan_load (by simp only [List.getElem?_toArray, List.getElem?_cons_succ, List.getElem?_cons_zero]; rfl) (by rfl) (by rfl) (fun K hK => ?_); (go_simp; try go_bits; try go_simp); refine hK _ ?_; clear hK K) | (refine E.plan_skip (E.Ext.refl _) (by simp only [List.getElem?_toArray, List.getElem?_cons_succ, List.getElem?_cons_zero]; rfl) (by rfl) (fun K hK => ?_); (go_simp; try go_bits; try go_simp); refine hK _ ?_; clear hK K))
                  refine E.plan_eff (by simp only [List.getElem?_toArray, List.getElem?_cons_succ, List.getElem?_cons_zero]; rfl) (by rfl) (fun K hK => ?_); (go_simp; try go_bits)
                  refine (withinR_any _ _ _ _).mono ?_; rintro e w' ⟨rfl, rfl⟩; refine hK _ _ (E.Ext.refl _) ?_; clear hK K
                  rw [H6.out]
                  repeat (first | (refine E.plan_pure (by simp only [List.getElem?_toArray, List.getElem?_cons_succ, List.getElem?_cons_zero]; rfl) (by rfl) (fun K hK => ?_); (go_simp; try go_bits; try go_simp); refine hK _ ?_; clear hK K) | (refine E.plan_load (by simp only [List.getElem?_toArray, List.getElem?_cons_succ, List.getElem?_cons_zero]; rfl) (by rfl) (by rfl) (fun K hK => ?_); (go_simp; try go_bits; try go_simp); refine hK _ ?_; clear hK K) | (refine E.plan_skip (E.Ext.refl _) (by simp only [List.getElem?_toArray, List.getElem?_cons_succ, List.getElem?_cons_zero]; rfl) (by rfl) (fun K hK => ?_); (go_simp; try go_bits; try go_simp); refine hK _ ?_; clear hK K))
                  refine E.plan_eff (by simp only [List.getElem?_toArray, List.getElem?_cons_succ, List.getElem?_cons_zero]; rfl) (by rfl) (fun K hK => ?_); (go_simp; try go_bits)
                  refine (HTW.out).mono ?_; rintro e w3 ⟨rfl, hx3⟩; refine hK _ _ hx3 ?_; clear hK K
                  cases h7 : twinB (x.keys.take i) x.keys[i] with
                  | true =>
                    have HN := Lib.hid (not_fits (s := s) (x := x) (Or.inr (Or.inr (Or.inr (Or.inr (Or.inr ⟨i, _, HKI.out, Or.inr h7⟩))))))
                    clear h7
                    repeat (first | (refine E.plan_pure (by simp only [List.getElem?_toArray, List.getElem?_cons_succ, List.getElem?_cons_zero]; rfl) (by rfl) (fun K hK => ?_); (go_simp; try go_bits; try go_simp); refine hK _ ?_; clear hK K) | (refine E.plan_load (by simp only [List.getElem?_toArray, List.getElem?_cons_succ, List.getElem?_cons_zero]; rfl) (by rfl) (by rfl) (fun K hK => ?_); (go_simp; try go_bits; try go_simp); refine hK _ ?_; clear hK K) | (refine E.plan_skip (E.Ext.refl _) (by simp only [List.getElem?_toArray, List.getElem?_cons_succ, List.getElem?_cons_zero]; rfl) (by rfl) (fun K hK => ?_); (go_simp; try go_bits; try go_simp); refine hK _ ?_; clear hK K))
                    refine E.plan_nil ?_
                    go_wp2_with fail
                    go_ret
                    exact ⟨by rw [HN.out]; rfl, hx02.trans (hx.trans ((E.Ext.drew _).trans hx3))⟩
                  | false =>
                    have H7 := Lib.hid h7
                    clear h7
                    repeat (first | (refine E.plan_pure (by simp only [List.getElem?_toArray, List.getElem?_cons_succ, List.getElem?_cons_zero]; rfl) (by rfl) (fun K hK => ?_); (go_simp; try go_bits; try go_simp); refine hK _ ?_; clear hK K) | (refine E.plan_load (by simp only [List.getElem?_toArray, List.getElem?_cons_succ, List.getElem?_cons_zero]; rfl) (by rfl) (by rfl) (fun K hK => ?_); (go_simp; try go_bits; try go_simp); refine hK _ ?_; clear hK K) | (refine E.plan_skip (E.Ext.refl _) (by simp only [List.getElem?_toArray, List.getElem?_cons_succ, List.getElem?_cons_zero]; rfl) (by rfl) (fun K hK => ?_); (go_simp; try go_bits; try go_simp); refine hK _ ?_; clear hK K))
                    refine E.plan_nil ?_
                    go_wp2_with fail
                    go_roundw
                    case rel => exact ⟨i + 1, by go_num, by omega, hx.trans ((E.Ext.drew _).trans hx3), fun j k hj hk => by
                      by_cases hji : j = i
                      · subst hji
                        rw [HKI.out] at hk
                        cases hk
                        unfold seatB
                        rw [H6.out, H7.out]
                        rfl
                      · exact HNO.out j k (by omega) hk⟩
                    case measure => simp [intOf]; omega
              · have HN := Lib.hid (is_fits (s := s) (x := x) h1 h2 h3 h4 h5 (fun j k hk => HNO.out j k (by have := (List.getElem?_eq_some_iff.1 hk).1; omega) hk))
                go_wp2_with fail
                go_ret
                exact ⟨by rw [HN.out]; rfl, hx02.trans hx⟩
      · have HN := Lib.hid (not_fits (s := s) (x := x) (Or.inr (Or.inr (Or.inl h3))))
        go_wp2_with fail
        go_ret
        exact ⟨by rw [HN.out]; rfl, hx01⟩

theorem newest_in {s : Setup} {x : Shelf} (h : FitsP s x) : 0 ≤ newest x ∧ newest x ≤ 1099511627776 := by
  have hb := (fits_all h).2.2.2.1
  rcases List.eq_nil_or_concat x.keys with h0 | ⟨l, k, h0⟩
  · rw [newest_nil h0]
    exact hb
  · have hk : x.keys[x.keys.length - 1]? = some k := by rw [h0]; simp
    have h1 := fits_stamp h hk
    rw [newest_cons hk]
    omega
theorem floor_no {s : Setup} {x : Shelf} (h : ¬ FitsP s x) : floorV s x = 0 := if_neg h
theorem floor_yes {s : Setup} {x : Shelf} (h : FitsP s x) : floorV s x = floor0 s x := if_pos h
theorem headStamp_of {x : Shelf} {k : Key} (h : x.keys[0]? = some k) : headStamp x = k.stamp := by
  unfold headStamp
  rw [List.head?_eq_getElem?, h]

theorem full_beq (s : Setup) (x : Shelf) : ((x.keys.length : Int) == s.keep) = fullB s x := by unfold fullB; rw [Bool.eq_iff_iff]; simp
theorem ret2 {a b c : Int} (h : a = b) : Ending.returned (.tuple #[.int .i64 a, .int .i64 c]) = .returned (.tuple #[.int .i64 b, .int .i64 c]) := by rw [h]
set_option maxHeartbeats 3200000 in
theorem floor_any (s : Setup) (x : Shelf) (A : Option Addr) (c : Nat) (w : World) (hS : Sl w 3 A x.keys.length c (keyCells x.keys)) (hl : x.keys.length ≤ 1099511627776) :
    Calls Try.prog 11 #[s.val, x.val A c] w fun e w' => e = .returned (.tuple #[.int .i64 (floorV s x), .int .i64 (fitsE s x)]) ∧ E.Ext w w' := by
  have hcap := hS.cap
  have hmax := hS.max
  have hx0 := (E.Ext.alloc w (.cells #[.int .i64 s.keep, .int .i64 s.horizon, .int .i64 s.ahead, .int .i64 s.budget, .int .i64 s.window] 23)).trans (E.Ext.alloc _ (.cells #[.int .i64 x.base, .slice A x.keys.length c, .int .i64 x.clean] 26))
  by_cases hf : FitsP s x
  · have HE := Lib.hid (fits_yes hf)
    have HF := Lib.hid (floor_yes hf)
    obtain ⟨⟨a1, a2⟩, ⟨a3, a4⟩, ⟨a5, a6⟩, ⟨a7, a8⟩, a9, a10, a11⟩ := fits_all hf
    obtain ⟨n1, n2⟩ := newest_in hf
    have HFP := Lib.hid hf
    clear hf
    unfold Shelf.val Setup.val
    go_enter Try.func11, Try.ntmps11
    go_wp2_with fail
    refine (fits_any s x A c _ (hS.ext hx0) hl).mono ?_
    rintro e w1 ⟨rfl, hx1⟩
    rw [HE.out]
    have H1 := E.blk1 hx1 rfl
    have H2 := E.blk0 hx1 rfl
    simp only [World.size_alloc] at H2
    have hx01 := hx0.trans hx1
    obtain ⟨c1, f1⟩ := H1.facts
    obtain ⟨c2, f2⟩ := H2.facts
    go_wp2_with fail
    refine E.wp_plan E.ext_pre 1000000 [(0, true), (1, true), (2, true), (4, true), (5, true), (3, false), (6, true), (7, true), (8, true)] (by kernel_rfl) (by kernel_rfl) ?_
    repeat (first | (refine E.plan_pure (by simp only [List.getElem?_toArray, List.getElem?_cons_succ, List.getElem?_cons_zero]; rfl) (by rfl) (fun K hK => ?_); (go_simp; try go_bits; try go_simp); refine hK _ ?_; clear hK K) | (refine E.plan_load (by simp only [List.getElem?_toArray, List.getElem?_cons_succ, List.getElem?_cons_zero]; rfl) (by rfl) (by rfl) (fun K hK => ?_); (go_simp; try go_bits; try go_simp); refine hK _ ?_; clear hK K) | (refine E.plan_skip (E.Ext.refl _) (by simp only [List.getElem?_toArray, List.getElem?_cons_succ, List.getElem?_cons_zero]; rfl) (by rfl) (fun K hK => ?_); (go_simp; try go_bits; try go_simp); refine hK _ ?_; clear hK K))
    refine E.plan_eff (by simp only [List.getElem?_toArray, List.getElem?_cons_succ, List.getElem?_cons_zero]; rfl) (by rfl) (fun K hK => ?_); (go_simp; try go_bits)
    refine (newest_any x A c _ ((hS.ext hx01).ext (E.Ext.drew _)) hl).mono ?_; rintro e w2 ⟨rfl, hx2⟩; refine hK _ _ hx2 ?_; clear hK K
    have hx12 := (E.Ext.drew w1).trans hx2
    have hx02 := hx01.trans hx12
    clear c1 f1 c2 f2
    obtain ⟨c1, f1⟩ := ((H1.ext hx12)).facts
    obtain ⟨c2, f2⟩ := ((H2.ext hx12)).facts
    repeat (first | (refine E.plan_pure (by simp only [List.getElem?_toArray, List.getElem?_cons_succ, List.getElem?_cons_zero]; rfl) (by rfl) (fun K hK => ?_); (go_simp; try go_bits; try go_simp); refine hK _ ?_; clear hK K) | (refine E.plan_load (by simp only [List.getElem?_toArray, List.getElem?_cons_succ, List.getElem?_cons_zero]; rfl) (by rfl) (by rfl) (fun K hK => ?_); (go_simp; try go_bits; try go_simp); refine hK _ ?_; clear hK K) | (refine E.plan_skip (E.Ext.refl _) (by simp only [List.getElem?_toArray, List.getElem?_cons_succ, List.getElem?_cons_zero]; rfl) (by rfl) (fun K hK => ?_); (go_simp; try go_bits; try go_simp); refine hK _ ?_; clear hK K))
    refine E.plan_nil ?_
    go_wp2_with fail
    all_goals
      refine (full_any s x A c _).mono ?_
      rintro e w3 ⟨rfl, hx3⟩
      cases hfull : fullB s x with
      | false =>
        have HB := Lib.hid hfull
        skip
        clear hfull
        go_wp2_with fail
        go_ret2
        exact ⟨by rw [HE.out]; exact ret2 (by rw [HF.out]; unfold floor0; rw [HB.out]; simp only [Bool.false_eq_true, if_false]; omega), hx02.trans hx3⟩
      | true =>
        have HB := Lib.hid hfull
        skip
        have hlen : 0 < x.keys.length := by
          have := HB.out
          unfold fullB at this
          simp only [decide_eq_true_eq] at this
          omega
        clear hfull
        obtain ⟨b, o, rfl, k0, k1, k2⟩ := key_at ((hS.ext hx02).ext hx3) (k := 0) hlen
        simp only [Nat.zero_mul, Nat.add_zero] at k0 k1 k2
        have hh := headStamp_of (x := x) (k := x.keys[0]) (List.getElem?_eq_getElem hlen)
        have HH := Lib.hid hh
        clear hh
        clear c1 f1 c2 f2
        obtain ⟨c1, f1⟩ := ((H1.ext hx12).ext hx3).facts
        obtain ⟨c2, f2⟩ := ((H2.ext hx12).ext hx3).facts
        go_wp2_with fail
        all_goals
          go_ret2
          exact ⟨by rw [HE.out]; exact ret2 (by rw [HF.out]; unfold floor0; rw [HB.out]; simp only [if_true]; rw [HH.out]; omega), hx02.trans hx3⟩
  · have HE := Lib.hid (fits_no hf)
    have HF := Lib.hid (floor_no hf)
    clear hf
    unfold Shelf.val Setup.val
    go_enter Try.func11, Try.ntmps11
    go_wp2_with fail
    refine (fits_any s x A c _ (hS.ext hx0) hl).mono ?_
    rintro e w1 ⟨rfl, hx1⟩
    rw [HE.out]
    go_wp2_with fail
    go_ret2
    exact ⟨by rw [HF.out, HE.out]; rfl, hx0.trans hx1⟩
set_option maxHeartbeats 3200000 in
theorem floorR_any (s : Setup) (x : Shelf) (A : Option Addr) (c : Nat) (w : World) (hS : Sl w 3 A x.keys.length c (keyCells x.keys)) (hl : x.keys.length ≤ 1099511627776) :
    Calls Try.prog 14 #[s.val, x.val A c] w fun e w' => e = .returned (.tuple #[.int .i64 (floorV s x), .int .i64 (fitsE s x)]) ∧ E.Ext w w' := by
  have hcap := hS.cap
  have hmax := hS.max
  have hx0 := (E.Ext.alloc w (.cells #[.int .i64 s.keep, .int .i64 s.horizon, .int .i64 s.ahead, .int .i64 s.budget, .int .i64 s.window] 23)).trans (E.Ext.alloc _ (.cells #[.int .i64 x.base, .slice A x.keys.length c, .int .i64 x.clean] 26))
  by_cases hf : FitsP s x
  · have HE := Lib.hid (fits_yes hf)
    have HF := Lib.hid (floor_yes hf)
    obtain ⟨⟨a1, a2⟩, ⟨a3, a4⟩, ⟨a5, a6⟩, ⟨a7, a8⟩, a9, a10, a11⟩ := fits_all hf
    obtain ⟨n1, n2⟩ := newest_in hf
    have HFP := Lib.hid hf
    clear hf
    unfold Shelf.val Setup.val
    go_enter Try.func14, Try.ntmps14
    go_wp2_with fail
    refine (fitsR_any s x A c _ (hS.ext hx0) hl).mono ?_
    rintro e w1 ⟨rfl, hx1⟩
    rw [HE.out]
    have H1 := E.blk1 hx1 rfl
    have H2 := E.blk0 hx1 rfl
    simp only [World.size_alloc] at H2
    have hx01 := hx0.trans hx1
    obtain ⟨c1, f1⟩ := H1.facts
    obtain ⟨c2, f2⟩ := H2.facts
    go_wp2_with fail
    refine E.wp_plan E.ext_pre 1000000 [(0, true), (1, true), (2, true), (4, true), (5, true), (3, false), (6, true), (7, true), (8, true)] (by kernel_rfl) (by kernel_rfl) ?_
    repeat (first | (refine E.plan_pure (by simp only [List.getElem?_toArray, List.getElem?_cons_succ, List.getElem?_cons_zero]; rfl) (by rfl) (fun K hK => ?_); (go_simp; try go_bits; try go_simp); refine hK _ ?_; clear hK K) | (refine E.plan_load (by simp only [List.getElem?_toArray, List.getElem?_cons_succ, List.getElem?_cons_zero]; rfl) (by rfl) (by rfl) (fun K hK => ?_); (go_simp; try go_bits; try go_simp); refine hK _ ?_; clear hK K) | (refine E.plan_skip (E.Ext.refl _) (by simp only [List.getElem?_toArray, List.getElem?_cons_succ, List.getElem?_cons_zero]; rfl) (by rfl) (fun K hK => ?_); (go_simp; try go_bits; try go_simp); refine hK _ ?_; clear hK K))
    refine E.plan_eff (by simp only [List.getElem?_toArray, List.getElem?_cons_succ, List.getElem?_cons_zero]; rfl) (by rfl) (fun K hK => ?_); (go_simp; try go_bits)
    refine (newestR_any x A c _ ((hS.ext hx01).ext (E.Ext.drew _)) hl).mono ?_; rintro e w2 ⟨rfl, hx2⟩; refine hK _ _ hx2 ?_; clear hK K
    have hx12 := (E.Ext.drew w1).trans hx2
    have hx02 := hx01.trans hx12
    clear c1 f1 c2 f2
    obtain ⟨c1, f1⟩ := ((H1.ext hx12)).facts
    obtain ⟨c2, f2⟩ := ((H2.ext hx12)).facts
    repeat (first | (refine E.plan_pure (by simp only [List.getElem?_toArray, List.getElem?_cons_succ, List.getElem?_cons_zero]; rfl) (by rfl) (fun K hK => ?_); (go_simp; try go_bits; try go_simp); refine hK _ ?_; clear hK K) | (refine E.plan_load (by simp only [List.getElem?_toArray, List.getElem?_cons_succ, List.getElem?_cons_zero]; rfl) (by rfl) (by rfl) (fun K hK => ?_); (go_simp; try go_bits; try go_simp); refine hK _ ?_; clear hK K) | (refine E.plan_skip (E.Ext.refl _) (by simp only [List.getElem?_toArray, List.getElem?_cons_succ, List.getElem?_cons_zero]; rfl) (by rfl) (fun K hK => ?_); (go_simp; try go_bits; try go_simp); refine hK _ ?_; clear hK K))
    refine E.plan_nil ?_
    cases hfull : fullB s x with
    | false =>
      have HB := Lib.hid hfull
      have hbe := full_beq s x
      rw [HB.out] at hbe
      clear hfull
      go_wp2_with fail
      all_goals
        go_ret2
        exact ⟨by rw [HE.out]; exact ret2 (by rw [HF.out]; unfold floor0; rw [HB.out]; simp only [Bool.false_eq_true, if_false]; omega), hx02⟩
    | true =>
      have HB := Lib.hid hfull
      have hbe := full_beq s x
      rw [HB.out] at hbe
      have hlen : 0 < x.keys.length := by
        have := HB.out
        unfold fullB at this
        simp only [decide_eq_true_eq] at this
        omega
      clear hfull
      obtain ⟨b, o, rfl, k0, k1, k2⟩ := key_at (hS.ext hx02) (k := 0) hlen
      simp only [Nat.zero_mul, Nat.add_zero] at k0 k1 k2
      have hh := headStamp_of (x := x) (k := x.keys[0]) (List.getElem?_eq_getElem hlen)
      have HH := Lib.hid hh
      clear hh
      go_wp2_with fail
      all_goals
        go_ret2
        exact ⟨by rw [HE.out]; exact ret2 (by rw [HF.out]; unfold floor0; rw [HB.out]; simp only [if_true]; rw [HH.out]; omega), hx02⟩
  · have HE := Lib.hid (fits_no hf)
    have HF := Lib.hid (floor_no hf)
    clear hf
    unfold Shelf.val Setup.val
    go_enter Try.func14, Try.ntmps14
    go_wp2_with fail
    refine (fitsR_any s x A c _ (hS.ext hx0) hl).mono ?_
    rintro e w1 ⟨rfl, hx1⟩
    rw [HE.out]
    go_wp2_with fail
    go_ret2
    exact ⟨by rw [HF.out, HE.out]; rfl, hx0.trans hx1⟩
end Go.Proofs.Ytedpkficechjnaa.AW
