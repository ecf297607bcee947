/- awake; the law AdmitWhy, walked. -/
import Derived.Test.YtedpkficechjnaaBD
namespace Go.Proofs.Ytedpkficechjnaa.BE
open Go.RowKit
open Go.Proofs.Ytedpkficechjnaa
open Go.Proofs.Ytedpkficechjnaa.KA Go.Proofs.Ytedpkficechjnaa.K Go.Proofs.Ytedpkficechjnaa.KB Go.Proofs.Ytedpkficechjnaa.KI Go.Proofs.Ytedpkficechjnaa.KQ Go.Proofs.Ytedpkficechjnaa.S Go.Proofs.Ytedpkficechjnaa.KR Go.Proofs.Ytedpkficechjnaa.KS Go.Proofs.Ytedpkficechjnaa.KT Go.Proofs.Ytedpkficechjnaa.KO Go.Proofs.Ytedpkficechjnaa.KU Go.Proofs.Ytedpkficechjnaa.AS Go.Proofs.Ytedpkficechjnaa.AT Go.Proofs.Ytedpkficechjnaa.AU Go.Proofs.Ytedpkficechjnaa.AV Go.Proofs.Ytedpkficechjnaa.AW Go.Proofs.Ytedpkficechjnaa.AX Go.Proofs.Ytedpkficechjnaa.AY Go.Proofs.Ytedpkficechjnaa.BA Go.Proofs.Ytedpkficechjnaa.BB Go.Proofs.Ytedpkficechjnaa.BD
set_option linter.unusedVariables false
set_option linter.unusedSimpArgs false

theorem judge_at (s : Setup) (x : Shelf) (A : Option Addr) (c : Nat) (k : Key) (w : World) (h : Sl w 3 A x.keys.length c (keyCells x.keys)) (hl : x.keys.length ≤ 1099511627776) {j : Int} (hj : judge s x k = j) :
    Calls Try.prog 8 #[s.val, x.val A c, k.val] w fun e w' => e = .returned (.int .i64 j) ∧ E.Ext w w' := by
  rw [← hj]
  exact judge_any s x A c k w h hl
theorem put_at (s : Setup) (x : Shelf) (A : Option Addr) (c : Nat) (k : Key) (w : World) (h : Sl w 3 A x.keys.length c (keyCells x.keys)) (hl : x.keys.length ≤ 1099511627776) {y : Shelf} {n j : Int} (hj : put s x k = (y, n, j)) :
    Calls Try.prog 15 #[s.val, x.val A c, k.val] w (OwnedS w y n j) := by
  have := put_any s x A c k w h hl
  rw [hj] at this
  exact this

set_option maxRecDepth 8000 in
set_option maxHeartbeats 3200000 in
theorem awake_any (w : World) : Calls Try.prog 7 #[] w fun e w' => e = .returned (.bool true) ∧ E.Ext w w' := by
  go_enter Try.func7, Try.ntmps7
  go_wp2_with fail
  refine (setup_any 10 _).mono ?_
  rintro e w1 ⟨rfl, hx1⟩
  dsimp only [Setup.val]
  go_wp2_with fail
  refine (sh0_any _).mono ?_
  rintro e w2 ⟨A0, c0, rfl, hx2, ho0⟩
  dsimp only [Shelf.val, sh0]
  go_wp2_with fail
  refine (key_any 6 2 2 _).mono ?_
  rintro e w3 ⟨rfl, hx3⟩
  dsimp only [Key.val]
  go_wp2_with fail
  refine (put_at s10 sh0 A0 c0 ⟨6, 2, 2⟩ _ ((own_sl' ho0).ext hx3) (by decide) p622).mono ?_
  rintro e w4 ⟨A4, c4, rfl, hx4, ho4⟩
  dsimp only [Shelf.val, sh1]
  have T4 := E.Blk.new w4 26 #[.int .i64 5, .slice A4 2 c4, .int .i64 0]
  have hxt := E.Ext.alloc w4 (.cells #[.int .i64 5, .slice A4 2 c4, .int .i64 0] 26)
  have hsl4 := (own_sl' ho4).ext hxt
  have hx04 := (((hx1.trans hx2).trans hx3).trans hx4).trans hxt
  go_wp2_with fail
  generalize hW : w4.alloc (.cells #[.int .i64 5, .slice A4 2 c4, .int .i64 0] 26) = wt at *
  generalize hB : w4.heap.size = tb at *
  clear hW hB
  refine E.wp_plan E.ext_pre 1000000 [(0, false), (1, false), (2, false), (3, true), (4, false), (5, false), (6, false), (7, false), (8, true), (9, true), (10, true), (11, false), (12, false), (13, false), (14, false), (15, true), (16, true), (17, true), (18, true), (19, true), (20, true), (21, true), (22, true), (23, true), (24, true), (25, true), (26, true), (27, false), (28, false), (29, true), (30, true)] (by kernel_rfl) (by kernel_rfl) ?_
  repeat (first | (refine E.plan_pure (by simp only [List.getElem?_toArray, List.getElem?_cons_succ, List.getElem?_cons_zero]; rfl) (by rfl) (fun K hK => ?_); (go_simp; try go_bits; try go_simp); refine hK _ ?_; clear hK K) | (refine E.plan_load (by simp only [List.getElem?_toArray, List.getElem?_cons_succ, List.getElem?_cons_zero]; rfl) (by rfl) (by rfl) (fun K hK => ?_); (go_simp; try go_bits; try go_simp); refine hK _ ?_; clear hK K) | (refine E.plan_skip (E.Ext.refl _) (by simp only [List.getElem?_toArray, List.getElem?_cons_succ, List.getElem?_cons_zero]; rfl) (by rfl) (fun K hK => ?_); (go_simp; try go_bits; try go_simp); refine hK _ ?_; clear hK K))
  refine E.plan_eff (by simp only [List.getElem?_toArray, List.getElem?_cons_succ, List.getElem?_cons_zero]; rfl) (by rfl) (fun K hK => ?_); (go_simp; try go_bits)
  refine (setup_any 10 _).mono ?_; rintro e v1 ⟨rfl, hy1⟩; refine hK _ _ hy1 ?_; clear hK K
  dsimp only [Setup.val]
  refine E.plan_eff (by simp only [List.getElem?_toArray, List.getElem?_cons_succ, List.getElem?_cons_zero]; rfl) (by rfl) (fun K hK => ?_); (go_simp; try go_bits)
  refine (sh0_any _).mono ?_; rintro e v2 ⟨B2, d2, rfl, hy2, hp2⟩; refine hK _ _ hy2 ?_; clear hK K
  dsimp only [Shelf.val, sh0]
  refine E.plan_eff (by simp only [List.getElem?_toArray, List.getElem?_cons_succ, List.getElem?_cons_zero]; rfl) (by rfl) (fun K hK => ?_); (go_simp; try go_bits)
  refine (floors_any s10 sh0 B2 d2 5 _ (own_sl' hp2) (by decide) (fits_yes fit0) fl0).mono ?_; rintro e v3 ⟨rfl, hy3⟩; refine hK _ _ hy3 ?_; clear hK K
  repeat (first | (refine E.plan_pure (by simp only [List.getElem?_toArray, List.getElem?_cons_succ, List.getElem?_cons_zero]; rfl) (by rfl) (fun K hK => ?_); (go_simp; try go_bits; try go_simp); refine hK _ ?_; clear hK K) | (refine E.plan_load (by simp only [List.getElem?_toArray, List.getElem?_cons_succ, List.getElem?_cons_zero]; rfl) (by rfl) (by rfl) (fun K hK => ?_); (go_simp; try go_bits; try go_simp); refine hK _ ?_; clear hK K) | (refine E.plan_skip (E.Ext.refl _) (by simp only [List.getElem?_toArray, List.getElem?_cons_succ, List.getElem?_cons_zero]; rfl) (by rfl) (fun K hK => ?_); (go_simp; try go_bits; try go_simp); refine hK _ ?_; clear hK K))
  refine E.plan_eff (by simp only [List.getElem?_toArray, List.getElem?_cons_succ, List.getElem?_cons_zero]; rfl) (by rfl) (fun K hK => ?_); (go_simp; try go_bits)
  refine (setup_any 10 _).mono ?_; rintro e v4 ⟨rfl, hy4⟩; refine hK _ _ hy4 ?_; clear hK K
  dsimp only [Setup.val]
  refine E.plan_eff (by simp only [List.getElem?_toArray, List.getElem?_cons_succ, List.getElem?_cons_zero]; rfl) (by rfl) (fun K hK => ?_); (go_simp; try go_bits)
  refine (sh0_any _).mono ?_; rintro e v5 ⟨B5, d5, rfl, hy5, hp5⟩; refine hK _ _ hy5 ?_; clear hK K
  dsimp only [Shelf.val, sh0]
  refine E.plan_eff (by simp only [List.getElem?_toArray, List.getElem?_cons_succ, List.getElem?_cons_zero]; rfl) (by rfl) (fun K hK => ?_); (go_simp; try go_bits)
  refine (key_any 9 1 1 _).mono ?_; rintro e v6 ⟨rfl, hy6⟩; refine hK _ _ hy6 ?_; clear hK K
  dsimp only [Key.val]
  refine E.plan_eff (by simp only [List.getElem?_toArray, List.getElem?_cons_succ, List.getElem?_cons_zero]; rfl) (by rfl) (fun K hK => ?_); (go_simp; try go_bits)
  refine (judge_at s10 sh0 B5 d5 ⟨9, 1, 1⟩ _ ((own_sl' hp5).ext hy6) (by decide) j911).mono ?_; rintro e v7 ⟨rfl, hy7⟩; refine hK _ _ hy7 ?_; clear hK K
  repeat (first | (refine E.plan_pure (by simp only [List.getElem?_toArray, List.getElem?_cons_succ, List.getElem?_cons_zero]; rfl) (by rfl) (fun K hK => ?_); (go_simp; try go_bits; try go_simp); refine hK _ ?_; clear hK K) | (refine E.plan_load (by simp only [List.getElem?_toArray, List.getElem?_cons_succ, List.getElem?_cons_zero]; rfl) (by rfl) (by rfl) (fun K hK => ?_); (go_simp; try go_bits; try go_simp); refine hK _ ?_; clear hK K) | (refine E.plan_skip (E.Ext.refl _) (by simp only [List.getElem?_toArray, List.getElem?_cons_succ, List.getElem?_cons_zero]; rfl) (by rfl) (fun K hK => ?_); (go_simp; try go_bits; try go_simp); refine hK _ ?_; clear hK K))
  refine E.plan_eff (by simp only [List.getElem?_toArray, List.getElem?_cons_succ, List.getElem?_cons_zero]; rfl) (by rfl) (fun K hK => ?_); (go_simp; try go_bits)
  refine (setup_any 10 _).mono ?_; rintro e v8 ⟨rfl, hy8⟩; refine hK _ _ hy8 ?_; clear hK K
  dsimp only [Setup.val]
  refine E.plan_eff (by simp only [List.getElem?_toArray, List.getElem?_cons_succ, List.getElem?_cons_zero]; rfl) (by rfl) (fun K hK => ?_); (go_simp; try go_bits)
  refine (sh0_any _).mono ?_; rintro e v9 ⟨B9, d9, rfl, hy9, hp9⟩; refine hK _ _ hy9 ?_; clear hK K
  dsimp only [Shelf.val, sh0]
  refine E.plan_eff (by simp only [List.getElem?_toArray, List.getElem?_cons_succ, List.getElem?_cons_zero]; rfl) (by rfl) (fun K hK => ?_); (go_simp; try go_bits)
  refine (key_any 5 1 0 _).mono ?_; rintro e v10 ⟨rfl, hy10⟩; refine hK _ _ hy10 ?_; clear hK K
  dsimp only [Key.val]
  refine E.plan_eff (by simp only [List.getElem?_toArray, List.getElem?_cons_succ, List.getElem?_cons_zero]; rfl) (by rfl) (fun K hK => ?_); (go_simp; try go_bits)
  refine (judge_at s10 sh0 B9 d9 ⟨5, 1, 0⟩ _ ((own_sl' hp9).ext hy10) (by decide) j510).mono ?_; rintro e v11 ⟨rfl, hy11⟩; refine hK _ _ hy11 ?_; clear hK K
  have hy := ((((((((((E.Ext.drew wt).trans hy1).trans hy2).trans hy3).trans hy4).trans hy5).trans hy6).trans hy7).trans hy8).trans hy9).trans (hy10.trans hy11)
  obtain ⟨ct, ft⟩ := (T4.ext hy).facts
  repeat (first | (refine E.plan_pure (by simp only [List.getElem?_toArray, List.getElem?_cons_succ, List.getElem?_cons_zero]; rfl) (by rfl) (fun K hK => ?_); (go_simp; try go_bits; try go_simp); refine hK _ ?_; clear hK K) | (refine E.plan_load (by simp only [List.getElem?_toArray, List.getElem?_cons_succ, List.getElem?_cons_zero]; rfl) (by rfl) (by rfl) (fun K hK => ?_); (go_simp; try go_bits; try go_simp); refine hK _ ?_; clear hK K) | (refine E.plan_skip (E.Ext.refl _) (by simp only [List.getElem?_toArray, List.getElem?_cons_succ, List.getElem?_cons_zero]; rfl) (by rfl) (fun K hK => ?_); (go_simp; try go_bits; try go_simp); refine hK _ ?_; clear hK K))
  refine E.plan_eff (by simp only [List.getElem?_toArray, List.getElem?_cons_succ, List.getElem?_cons_zero]; rfl) (by rfl) (fun K hK => ?_); (go_simp; try go_bits)
  refine (sh1_any _).mono ?_; rintro e v12 ⟨B12, d12, rfl, hy12, hp12⟩; refine hK _ _ hy12 ?_; clear hK K
  dsimp only [Shelf.val, sh1]
  refine E.plan_eff (by simp only [List.getElem?_toArray, List.getElem?_cons_succ, List.getElem?_cons_zero]; rfl) (by rfl) (fun K hK => ?_); (go_simp; try go_bits)
  refine (sameShelf_same sh1 A4 B12 c4 d12 _ ((hsl4.ext hy).ext hy12) (own_sl' hp12) (by decide)).mono ?_; rintro e v13 ⟨rfl, hy13⟩; refine hK _ _ hy13 ?_; clear hK K
  repeat (first | (refine E.plan_pure (by simp only [List.getElem?_toArray, List.getElem?_cons_succ, List.getElem?_cons_zero]; rfl) (by rfl) (fun K hK => ?_); (go_simp; try go_bits; try go_simp); refine hK _ ?_; clear hK K) | (refine E.plan_load (by simp only [List.getElem?_toArray, List.getElem?_cons_succ, List.getElem?_cons_zero]; rfl) (by rfl) (by rfl) (fun K hK => ?_); (go_simp; try go_bits; try go_simp); refine hK _ ?_; clear hK K) | (refine E.plan_skip (E.Ext.refl _) (by simp only [List.getElem?_toArray, List.getElem?_cons_succ, List.getElem?_cons_zero]; rfl) (by rfl) (fun K hK => ?_); (go_simp; try go_bits; try go_simp); refine hK _ ?_; clear hK K))
  refine E.plan_nil ?_
  go_wp2_with fail
  go_ret
  exact ⟨rfl, hx04.trans (hy.trans (hy12.trans hy13))⟩

theorem twinB_succ {l : List Key} {k : Key} {i : Nat} {x : Key} (hx : l[i]? = some x) : twinB (l.take (i + 1)) k = (twinB (l.take i) k || twinsB x k) := by
  obtain ⟨hi, rfl⟩ := List.getElem?_eq_some_iff.1 hx
  rw [List.take_succ_eq_append_getElem hi]
  unfold twinB
  rw [List.any_append]
  simp

set_option maxRecDepth 8000 in
set_option maxHeartbeats 6400000 in
theorem why_walk (s : Setup) (x : Shelf) (A : Option Addr) (c : Nat) (k : Key) (w : World) (h : Sl w 3 A x.keys.length c (keyCells x.keys)) :
    Calls Try.prog 3 #[s.val, x.val A c, k.val] w fun e w' => e = .returned (.bool true) ∧ E.Ext w w' := by
  have hx0 := ((E.Ext.alloc w (.cells #[.int .i64 s.keep, .int .i64 s.horizon, .int .i64 s.ahead, .int .i64 s.budget, .int .i64 s.window] 23)).trans (E.Ext.alloc _ (.cells #[.int .i64 x.base, .slice A x.keys.length c, .int .i64 x.clean] 26))).trans (E.Ext.alloc _ (.cells #[.int .i64 k.stamp, .int .i64 k.sensor, .int .i64 k.seq] 28))
  unfold Shelf.val Setup.val Key.val
  go_enter Try.func3, Try.ntmps3
  go_wp2_with fail
  refine (awake_any _).mono ?_
  rintro e w1 ⟨rfl, hx1⟩
  have S1 : SetupB w1 w.heap.size s := E.blk2 hx1 rfl
  have X1 : ShelfB w1 (w.heap.size + 1) x A c := by have := E.blk1 hx1 rfl; simp only [World.size_alloc] at this; exact this
  have K1 : KeyB w1 (w.heap.size + 1 + 1) k := by have := E.blk0 hx1 rfl; simp only [World.size_alloc] at this; exact this
  have hx01 := hx0.trans hx1
  obtain ⟨c1, f1⟩ := E.Blk.facts S1
  obtain ⟨c2, f2⟩ := E.Blk.facts X1
  obtain ⟨c3, f3⟩ := E.Blk.facts K1
  by_cases h60 : 60 < x.keys.length
  · go_wp2_with fail
    go_ret
    exact ⟨rfl, hx01⟩
  · have hl : x.keys.length ≤ 1099511627776 := by omega
    obtain ⟨j, hj⟩ : ∃ j, judge s x k = j := ⟨_, rfl⟩
    obtain ⟨er, her⟩ : ∃ er, fitsE s x = er := ⟨_, rfl⟩
    obtain ⟨f, hf⟩ : ∃ f, floorV s x = f := ⟨_, rfl⟩
    have HJ := Lib.hid hj
    have HE := Lib.hid her
    have HFL := Lib.hid hf
    have HJ2 := Lib.hid (show (if badB er k then (2 : Int) else if twinB x.keys k then 7 else if lateB s x k f then 6 else if busyB s x then 12 else 0) = j by rw [← hj]; exact (judge_of s x k her hf).symm)
    clear hj her hf
    go_wp2_with fail
    refine (judge_at s x A c k _ (h.ext hx01) hl HJ.out).mono ?_
    rintro e w2 ⟨rfl, hx2⟩
    have hx02 := hx01.trans hx2
    clear c1 f1 c2 f2 c3 f3
    obtain ⟨c1, f1⟩ := (E.Blk.ext S1 hx2).facts
    obtain ⟨c2, f2⟩ := (E.Blk.ext X1 hx2).facts
    go_wp2_with fail
    refine (fits_any s x A c _ (h.ext hx02) hl).mono ?_
    rintro e w3 ⟨rfl, hx3⟩
    rw [HE.out]
    have hx03 := hx02.trans hx3
    have S2 := E.Blk.ext S1 (hx2.trans hx3)
    have X2 := E.Blk.ext X1 (hx2.trans hx3)
    have K2 := E.Blk.ext K1 (hx2.trans hx3)
    clear c1 f1 c2 f2
    obtain ⟨c2, f2⟩ := X2.facts
    obtain ⟨c3, f3⟩ := K2.facts
    by_cases he : er = 0
    · subst he
      by_cases hs1 : k.stamp < 0
      · have HB := Lib.hid (bad_win (k := k) (by unfold win; simp; omega))
        obtain rfl : j = 2 := HJ2.out.symm.trans (by simp [HB.out])
        go_wp2_with fail
        go_ret
        exact ⟨by simp, hx03⟩
      · by_cases hs2 : 1099511627776 < k.stamp
        · have HB := Lib.hid (bad_win (k := k) (by unfold win; simp; omega))
          obtain rfl : j = 2 := HJ2.out.symm.trans (by simp [HB.out])
          go_wp2_with fail
          go_ret
          exact ⟨by simp, hx03⟩
        · have HB := Lib.hid (bad_no (k := k) (win_iff.2 ⟨by omega, by omega⟩))
          have HFP := Lib.hid (not_bad HE.out HB.out)
          go_wp2_with fail
          clear c2 f2 c3 f3
          go_loopw [9, 10] (fun t v wr => ∃ i : Nat, v = .int .i64 i ∧ t = .bool (twinB (x.keys.take i) k) ∧ i ≤ x.keys.length ∧ E.Ext w3 wr) (fun _ v _ => x.keys.length - (intOf v).toNat)
          case atStart => exact ⟨0, rfl, rfl, Nat.zero_le _, E.Ext.refl _⟩
          case round =>
            obtain ⟨i, rfl, rfl, hi, hx⟩ := hrel
            have hxr := hx03.trans hx
            obtain ⟨c2, f2⟩ := (X2.ext hx).facts
            obtain ⟨c3, f3⟩ := (K2.ext hx).facts
            by_cases hlt : i < x.keys.length
            · obtain ⟨b, o, rfl, k0, k1, k2⟩ := key_at (h.ext hxr) (k := i) hlt
              have hsu := twinB_succ (k := k) (List.getElem?_eq_getElem hlt)
              have HSU := Lib.hid hsu
              clear hsu
              cases ht : twinB (x.keys.take i) k with
              | true =>
                rw [ht] at HSU
                go_wp2_with fail
                refine E.wp_plan E.ext_pre 1000000 [(0, true), (1, true), (2, true), (3, true), (4, true), (5, true), (6, true), (7, true), (8, false), (9, true), (10, true)] (by kernel_rfl) (by kernel_rfl) ?_
                repeat (first | (refine E.plan_pure (by simp only [List.getElem?_toArray, List.getElem?_cons_succ, List.getElem?_cons_zero]; rfl) (by rfl) (fun K hK => ?_); (go_simp; try go_bits; try go_simp); refine hK _ ?_; clear hK K) | (refine E.plan_load (by simp only [List.getElem?_toArray, List.getElem?_cons_succ, List.getElem?_cons_zero]; rfl) (by rfl) (by rfl) (fun K hK => ?_); (go_simp; try go_bits; try go_simp); refine hK _ ?_; clear hK K) | (refine E.plan_skip (E.Ext.refl _) (by simp only [List.getElem?_toArray, List.getElem?_cons_succ, List.getElem?_cons_zero]; rfl) (by rfl) (fun K hK => ?_); (go_simp; try go_bits; try go_simp); refine hK _ ?_; clear hK K))
                refine E.plan_nil ?_
                go_wp2_with fail
                go_roundw
                case rel => exact ⟨i + 1, by go_num, by rw [HSU.out]; rfl, by omega, hx.trans (E.Ext.drew _)⟩
                case measure => simp [intOf]; omega
              | false =>
                rw [ht] at HSU
                have HT := Lib.hid ht
                clear ht
                go_wp2_with fail
                refine E.wp_plan E.ext_pre 1000000 [(0, true), (1, true), (2, true), (3, true), (4, true), (5, true), (6, true), (7, true), (8, false), (9, true), (10, true)] (by kernel_rfl) (by kernel_rfl) ?_
                repeat (first | (refine E.plan_pure (by simp only [List.getElem?_toArray, List.getElem?_cons_succ, List.getElem?_cons_zero]; rfl) (by rfl) (fun K hK => ?_); (go_simp; try go_bits; try go_simp); refine hK _ ?_; clear hK K) | (refine E.plan_load (by simp only [List.getElem?_toArray, List.getElem?_cons_succ, List.getElem?_cons_zero]; rfl) (by rfl) (by rfl) (fun K hK => ?_); (go_simp; try go_bits; try go_simp); refine hK _ ?_; clear hK K) | (refine E.plan_skip (E.Ext.refl _) (by simp only [List.getElem?_toArray, List.getElem?_cons_succ, List.getElem?_cons_zero]; rfl) (by rfl) (fun K hK => ?_); (go_simp; try go_bits; try go_simp); refine hK _ ?_; clear hK K))
                refine E.plan_eff (by simp only [List.getElem?_toArray, List.getElem?_cons_succ, List.getElem?_cons_zero]; rfl) (by rfl) (fun K hK => ?_); (go_simp; try go_bits)
                refine (twins_any (x.keys[i]) k _).mono ?_; rintro e w5 ⟨rfl, hx5⟩; refine hK _ _ hx5 ?_; clear hK K
                repeat (first | (refine E.plan_pure (by simp only [List.getElem?_toArray, List.getElem?_cons_succ, List.getElem?_cons_zero]; rfl) (by rfl) (fun K hK => ?_); (go_simp; try go_bits; try go_simp); refine hK _ ?_; clear hK K) | (refine E.plan_load (by simp only [List.getElem?_toArray, List.getElem?_cons_succ, List.getElem?_cons_zero]; rfl) (by rfl) (by rfl) (fun K hK => ?_); (go_simp; try go_bits; try go_simp); refine hK _ ?_; clear hK K) | (refine E.plan_skip (E.Ext.refl _) (by simp only [List.getElem?_toArray, List.getElem?_cons_succ, List.getElem?_cons_zero]; rfl) (by rfl) (fun K hK => ?_); (go_simp; try go_bits; try go_simp); refine hK _ ?_; clear hK K))
                refine E.plan_nil ?_
                go_wp2_with fail
                go_roundw
                case rel => exact ⟨i + 1, by go_num, by rw [HSU.out]; rfl, by omega, hx.trans ((E.Ext.drew _).trans hx5)⟩
                case measure => simp [intOf]; omega
            · obtain rfl : i = x.keys.length := by omega
              clear hlt
              rw [List.take_of_length_le (Nat.le_refl _)]
              clear c3 f3
              obtain ⟨c1, f1⟩ := (S2.ext hx).facts
              go_wp2_with fail
              clear c1 f1 c2 f2
              refine (floor_any s x A c _ (h.ext hxr) hl).mono ?_
              rintro e w4 ⟨rfl, hx4⟩
              rw [HE.out, HFL.out]
              have hx04 := hxr.trans hx4
              obtain ⟨c1, f1⟩ := (S2.ext (hx.trans hx4)).facts
              obtain ⟨c2, f2⟩ := (X2.ext (hx.trans hx4)).facts
              obtain ⟨c3, f3⟩ := (K2.ext (hx.trans hx4)).facts
              have hbe := full_beq s x
              cases htw : twinB x.keys k with
              | true =>
                have HT := Lib.hid htw
                obtain rfl : j = 7 := HJ2.out.symm.trans (by simp [HB.out, htw])
                clear htw hbe
                cases hfull : fullB s x with
                | _ =>
                  have hbe := full_beq s x
                  rw [hfull] at hbe
                  clear hfull
                  go_wp2_with fail
                  go_ret
                  exact ⟨by simp, hx04⟩
              | false =>
                have HT := Lib.hid htw
                cases hfull : fullB s x with
                | true =>
                  rw [hfull] at hbe
                  have HFU := Lib.hid hfull
                  clear hfull
                  by_cases hst : k.stamp < f
                  · obtain rfl : j = 6 := HJ2.out.symm.trans (by simp [HB.out, HT.out, late_low (s := s) (x := x) hst])
                    go_wp2_with fail
                    refine E.wp_plan E.ext_pre 1000000 [(0, true), (1, true), (2, true), (3, true), (4, true), (5, true), (6, true), (7, true), (8, true), (9, true), (10, true), (11, true), (12, false), (13, true), (14, true), (15, true)] (by kernel_rfl) (by kernel_rfl) ?_
                    repeat (first | (refine E.plan_pure (by simp only [List.getElem?_toArray, List.getElem?_cons_succ, List.getElem?_cons_zero]; rfl) (by rfl) (fun K hK => ?_); (go_simp; try go_bits; try go_simp); refine hK _ ?_; clear hK K) | (refine E.plan_load (by simp only [List.getElem?_toArray, List.getElem?_cons_succ, List.getElem?_cons_zero]; rfl) (by rfl) (by rfl) (fun K hK => ?_); (go_simp; try go_bits; try go_simp); refine hK _ ?_; clear hK K) | (refine E.plan_skip (E.Ext.refl _) (by simp only [List.getElem?_toArray, List.getElem?_cons_succ, List.getElem?_cons_zero]; rfl) (by rfl) (fun K hK => ?_); (go_simp; try go_bits; try go_simp); refine hK _ ?_; clear hK K))
                    refine E.plan_nil ?_
                    go_wp2_with fail
                    go_ret
                    exact ⟨by simp, hx04.trans (E.Ext.drew _)⟩
                  · have hd : decide (k.stamp < f) = false := by simpa using hst
                    have hlen := full_len HFP.out HFU.out
                    have hll := late_head (s := s) (x := x) (k := k) (f := f) hst HFU.out hlen
                    have HLL := Lib.hid hll
                    clear hll hst
                    obtain ⟨b, o, rfl, k0, k1, k2⟩ := key_at (h.ext hx04) (k := 0) hlen
                    simp only [Nat.zero_mul, Nat.add_zero] at k0 k1 k2
                    go_wp2_with fail
                    refine E.wp_plan E.ext_pre 1000000 [(0, true), (1, true), (2, true), (3, true), (4, true), (5, true), (6, true), (7, true), (8, true), (9, true), (10, true), (11, true), (12, false), (13, true), (14, true), (15, true)] (by kernel_rfl) (by kernel_rfl) ?_
                    repeat (first | (refine E.plan_pure (by simp only [List.getElem?_toArray, List.getElem?_cons_succ, List.getElem?_cons_zero]; rfl) (by rfl) (fun K hK => ?_); (go_simp; try go_bits; try go_simp); refine hK _ ?_; clear hK K) | (refine E.plan_load (by simp only [List.getElem?_toArray, List.getElem?_cons_succ, List.getElem?_cons_zero]; rfl) (by rfl) (by rfl) (fun K hK => ?_); (go_simp; try go_bits; try go_simp); refine hK _ ?_; clear hK K) | (refine E.plan_skip (E.Ext.refl _) (by simp only [List.getElem?_toArray, List.getElem?_cons_succ, List.getElem?_cons_zero]; rfl) (by rfl) (fun K hK => ?_); (go_simp; try go_bits; try go_simp); refine hK _ ?_; clear hK K))
                    refine E.plan_eff (by simp only [List.getElem?_toArray, List.getElem?_cons_succ, List.getElem?_cons_zero]; rfl) (by rfl) (fun K hK => ?_); (go_simp; try go_bits)
                    refine (less_any k (x.keys[0]) _).mono ?_; rintro e w5 ⟨rfl, hx5⟩; refine hK _ _ hx5 ?_; clear hK K
                    have hx45 := (E.Ext.drew w4).trans hx5
                    have hx05 := hx04.trans hx45
                    clear c1 f1 c2 f2 c3 f3
                    obtain ⟨c2, f2⟩ := (X2.ext ((hx.trans hx4).trans hx45)).facts
                    cases hq : k.lt (x.keys[0]) with
                    | true =>
                      obtain rfl : j = 6 := HJ2.out.symm.trans (by simp [HB.out, HT.out, HLL.out, hq])
                      repeat (first | (refine E.plan_pure (by simp only [List.getElem?_toArray, List.getElem?_cons_succ, List.getElem?_cons_zero]; rfl) (by rfl) (fun K hK => ?_); (go_simp; try go_bits; try go_simp); refine hK _ ?_; clear hK K) | (refine E.plan_load (by simp only [List.getElem?_toArray, List.getElem?_cons_succ, List.getElem?_cons_zero]; rfl) (by rfl) (by rfl) (fun K hK => ?_); (go_simp; try go_bits; try go_simp); refine hK _ ?_; clear hK K) | (refine E.plan_skip (E.Ext.refl _) (by simp only [List.getElem?_toArray, List.getElem?_cons_succ, List.getElem?_cons_zero]; rfl) (by rfl) (fun K hK => ?_); (go_simp; try go_bits; try go_simp); refine hK _ ?_; clear hK K))
                      refine E.plan_nil ?_
                      go_wp2_with fail
                      go_ret
                      exact ⟨by simp, hx05⟩
                    | false =>
                      have HL := Lib.hid (HLL.out.trans hq)
                      clear hq
                      repeat (first | (refine E.plan_pure (by simp only [List.getElem?_toArray, List.getElem?_cons_succ, List.getElem?_cons_zero]; rfl) (by rfl) (fun K hK => ?_); (go_simp; try go_bits; try go_simp); refine hK _ ?_; clear hK K) | (refine E.plan_load (by simp only [List.getElem?_toArray, List.getElem?_cons_succ, List.getElem?_cons_zero]; rfl) (by rfl) (by rfl) (fun K hK => ?_); (go_simp; try go_bits; try go_simp); refine hK _ ?_; clear hK K) | (refine E.plan_skip (E.Ext.refl _) (by simp only [List.getElem?_toArray, List.getElem?_cons_succ, List.getElem?_cons_zero]; rfl) (by rfl) (fun K hK => ?_); (go_simp; try go_bits; try go_simp); refine hK _ ?_; clear hK K))
                      refine E.plan_nil ?_
                      cases hcl : decide (x.clean = 0) with
                      | true =>
                        have hce : (x.clean == 0) = true := by simpa using hcl
                        obtain rfl : j = 12 := HJ2.out.symm.trans (by simp [HB.out, HT.out, HL.out, busyB, HFU.out, hcl])
                        clear hcl
                        go_wp2_with fail
                        go_ret
                        exact ⟨by simp, hx05⟩
                      | false =>
                        have hce : (x.clean == 0) = false := by simpa using hcl
                        obtain rfl : j = 0 := HJ2.out.symm.trans (by simp [HB.out, HT.out, HL.out, busyB, HFU.out, hcl])
                        clear hcl
                        go_wp2_with fail
                        go_ret
                        exact ⟨by simp, hx05⟩
                | false =>
                  rw [hfull] at hbe
                  have HFU := Lib.hid hfull
                  clear hfull
                  by_cases hst : k.stamp < f
                  · obtain rfl : j = 6 := HJ2.out.symm.trans (by simp [HB.out, HT.out, late_low (s := s) (x := x) hst])
                    go_wp2_with fail
                    refine E.wp_plan E.ext_pre 1000000 [(0, true), (1, true), (2, true), (3, true), (4, true), (5, true), (6, true), (7, true), (8, true), (9, true), (10, true), (11, true), (12, false), (13, true), (14, true), (15, true)] (by kernel_rfl) (by kernel_rfl) ?_
                    repeat (first | (refine E.plan_pure (by simp only [List.getElem?_toArray, List.getElem?_cons_succ, List.getElem?_cons_zero]; rfl) (by rfl) (fun K hK => ?_); (go_simp; try go_bits; try go_simp); refine hK _ ?_; clear hK K) | (refine E.plan_load (by simp only [List.getElem?_toArray, List.getElem?_cons_succ, List.getElem?_cons_zero]; rfl) (by rfl) (by rfl) (fun K hK => ?_); (go_simp; try go_bits; try go_simp); refine hK _ ?_; clear hK K) | (refine E.plan_skip (E.Ext.refl _) (by simp only [List.getElem?_toArray, List.getElem?_cons_succ, List.getElem?_cons_zero]; rfl) (by rfl) (fun K hK => ?_); (go_simp; try go_bits; try go_simp); refine hK _ ?_; clear hK K))
                    refine E.plan_nil ?_
                    go_wp2_with fail
                    go_ret
                    exact ⟨by simp, hx04.trans (E.Ext.drew _)⟩
                  · have hd : decide (k.stamp < f) = false := by simpa using hst
                    have hll := late_not (s := s) (x := x) (k := k) (f := f) hst HFU.out
                    obtain rfl : j = 0 := HJ2.out.symm.trans (by simp [HB.out, HT.out, hll, busyB, HFU.out])
                    clear hll hst
                    go_wp2_with fail
                    refine E.wp_plan E.ext_pre 1000000 [(0, true), (1, true), (2, true), (3, true), (4, true), (5, true), (6, true), (7, true), (8, true), (9, true), (10, true), (11, true), (12, false), (13, true), (14, true), (15, true)] (by kernel_rfl) (by kernel_rfl) ?_
                    repeat (first | (refine E.plan_pure (by simp only [List.getElem?_toArray, List.getElem?_cons_succ, List.getElem?_cons_zero]; rfl) (by rfl) (fun K hK => ?_); (go_simp; try go_bits; try go_simp); refine hK _ ?_; clear hK K) | (refine E.plan_load (by simp only [List.getElem?_toArray, List.getElem?_cons_succ, List.getElem?_cons_zero]; rfl) (by rfl) (by rfl) (fun K hK => ?_); (go_simp; try go_bits; try go_simp); refine hK _ ?_; clear hK K) | (refine E.plan_skip (E.Ext.refl _) (by simp only [List.getElem?_toArray, List.getElem?_cons_succ, List.getElem?_cons_zero]; rfl) (by rfl) (fun K hK => ?_); (go_simp; try go_bits; try go_simp); refine hK _ ?_; clear hK K))
                    refine E.plan_nil ?_
                    go_wp2_with fail
                    go_ret
                    exact ⟨by simp, hx04.trans (E.Ext.drew _)⟩
    · have HB := Lib.hid (bad_er (k := k) he)
      have hen : (er != 0) = true := by simpa using he
      obtain rfl : j = 2 := HJ2.out.symm.trans (by simp [HB.out])
      clear he
      go_wp2_with fail
      go_ret
      exact ⟨by simp, hx03⟩
end Go.Proofs.Ytedpkficechjnaa.BE
