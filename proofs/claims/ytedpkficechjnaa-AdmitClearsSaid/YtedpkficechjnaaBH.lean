/- AdmitClears, walked. -/
import Derived.Test.YtedpkficechjnaaBG
namespace Go.Proofs.Ytedpkficechjnaa.BH
open Go.RowKit
open Go.Proofs.Ytedpkficechjnaa
open Go.Proofs.Ytedpkficechjnaa.KA Go.Proofs.Ytedpkficechjnaa.K Go.Proofs.Ytedpkficechjnaa.KB Go.Proofs.Ytedpkficechjnaa.KI Go.Proofs.Ytedpkficechjnaa.KQ Go.Proofs.Ytedpkficechjnaa.S Go.Proofs.Ytedpkficechjnaa.KR Go.Proofs.Ytedpkficechjnaa.KS Go.Proofs.Ytedpkficechjnaa.KT Go.Proofs.Ytedpkficechjnaa.KO Go.Proofs.Ytedpkficechjnaa.KU Go.Proofs.Ytedpkficechjnaa.AS Go.Proofs.Ytedpkficechjnaa.AT Go.Proofs.Ytedpkficechjnaa.AU Go.Proofs.Ytedpkficechjnaa.AV Go.Proofs.Ytedpkficechjnaa.AW Go.Proofs.Ytedpkficechjnaa.AX Go.Proofs.Ytedpkficechjnaa.AY Go.Proofs.Ytedpkficechjnaa.BA Go.Proofs.Ytedpkficechjnaa.BB Go.Proofs.Ytedpkficechjnaa.BD Go.Proofs.Ytedpkficechjnaa.BE Go.Proofs.Ytedpkficechjnaa.BG
set_option linter.unusedVariables false
set_option linter.unusedSimpArgs false

theorem tick_at (s : Setup) (x : Shelf) (A : Option Addr) (c : Nat) (w : World) (h : Sl w 3 A x.keys.length c (keyCells x.keys)) (hl : x.keys.length ≤ 1099511627776) {y : Shelf} {n j : Int} (hj : tick s x = (y, n, j)) :
    Calls Try.prog 17 #[s.val, x.val A c] w (OwnedS w y n j) := by
  have := tick_any s x A c w h hl
  rw [hj] at this
  exact this
theorem fits_at (s : Setup) (x : Shelf) (A : Option Addr) (c : Nat) (w : World) (h : Sl w 3 A x.keys.length c (keyCells x.keys)) (hl : x.keys.length ≤ 1099511627776) {er : Int} (hj : fitsE s x = er) :
    Calls Try.prog 9 #[s.val, x.val A c] w fun e w' => e = .returned (.int .i64 er) ∧ E.Ext w w' := by
  rw [← hj]
  exact fits_any s x A c w h hl

set_option maxRecDepth 8000 in
set_option maxHeartbeats 6400000 in
theorem clears_walk (s0 : Setup) (x : Shelf) (A : Option Addr) (c : Nat) (w : World) (h : Sl w 3 A x.keys.length c (keyCells x.keys)) :
    Calls Try.prog 6 #[s0.val, x.val A c] w fun e w' => e = .returned (.bool true) ∧ E.Ext w w' := by
  have hx0 := (E.Ext.alloc w (.cells #[.int .i64 s0.keep, .int .i64 s0.horizon, .int .i64 s0.ahead, .int .i64 s0.budget, .int .i64 s0.window] 23)).trans (E.Ext.alloc _ (.cells #[.int .i64 x.base, .slice A x.keys.length c, .int .i64 x.clean] 26))
  obtain ⟨s, hs⟩ : ∃ s, smallS s0 = s := ⟨_, rfl⟩
  have HSM := Lib.hid (fun w => small_any s0 w)
  have hbud := small_budget s0
  rw [hs] at HSM hbud
  clear hs
  obtain ⟨hB1, hB6⟩ := hbud
  unfold Shelf.val Setup.val
  go_enter Try.func6, Try.ntmps6
  go_wp2_with fail
  refine (awake_any _).mono ?_
  rintro e w1 ⟨rfl, hx1⟩
  have S1 : SetupB w1 w.heap.size s0 := E.blk1 hx1 rfl
  have X1 : ShelfB w1 (w.heap.size + 1) x A c := by have := E.blk0 hx1 rfl; simp only [World.size_alloc] at this; exact this
  have hx01 := hx0.trans hx1
  obtain ⟨c1, f1⟩ := E.Blk.facts S1
  go_wp2_with fail
  refine (HSM.out _).mono ?_
  rintro e w2 ⟨rfl, hx2⟩
  dsimp only [Setup.val]
  have S2 := E.Blk.ext S1 hx2
  clear c1 f1
  obtain ⟨c1, f1⟩ := S2.facts
  have hsl := S2.lt
  have X2 := E.Blk.ext X1 hx2
  have hx02 := hx01.trans hx2
  have S3 : SetupB (((((w2.setCell ⟨w.heap.size, 0, none⟩ (.int .i64 s.keep)).setCell ⟨w.heap.size, 1, none⟩ (.int .i64 s.horizon)).setCell ⟨w.heap.size, 2, none⟩ (.int .i64 s.ahead)).setCell ⟨w.heap.size, 3, none⟩ (.int .i64 s.budget)).setCell ⟨w.heap.size, 4, none⟩ (.int .i64 s.window)) w.heap.size s :=
    ((((S2.set 0 (.int .i64 s.keep)).set 1 (.int .i64 s.horizon)).set 2 (.int .i64 s.ahead)).set 3 (.int .i64 s.budget)).set 4 (.int .i64 s.window)
  have hxS : E.ExtS (fun i => i = w.heap.size) w2 (((((w2.setCell ⟨w.heap.size, 0, none⟩ (.int .i64 s.keep)).setCell ⟨w.heap.size, 1, none⟩ (.int .i64 s.horizon)).setCell ⟨w.heap.size, 2, none⟩ (.int .i64 s.ahead)).setCell ⟨w.heap.size, 3, none⟩ (.int .i64 s.budget)).setCell ⟨w.heap.size, 4, none⟩ (.int .i64 s.window)) := by
    repeat (refine E.ExtS.set ?_ (by simp) _)
    exact E.ExtS.refl _ _
  have X3 : ShelfB _ (w.heap.size + 1) x A c := X2.extS hxS (fun e => by omega)
  have hx03 := hx02.thenS hxS (fun i hi e => by have e' : i = w.heap.size := e; omega)
  obtain ⟨c2, f2⟩ := E.Blk.facts S3
  obtain ⟨c3, f3⟩ := E.Blk.facts X3
  have hlt1 := X2.lt
  by_cases h20 : 20 < x.keys.length
  · go_wp2_with fail
    go_ret
    exact ⟨rfl, hx03⟩
  · have hl : x.keys.length ≤ 1099511627776 := by omega
    clear c1 f1 c2 f2 c3 f3
    obtain ⟨c1, f1⟩ := S2.facts
    obtain ⟨c2, f2⟩ := E.Blk.facts S3
    obtain ⟨c3, f3⟩ := E.Blk.facts X3
    obtain ⟨c4, f4⟩ := X2.facts
    go_wp2_with fail
    generalize hW3 : (((((w2.setCell ⟨w.heap.size, 0, none⟩ (.int .i64 s.keep)).setCell ⟨w.heap.size, 1, none⟩ (.int .i64 s.horizon)).setCell ⟨w.heap.size, 2, none⟩ (.int .i64 s.ahead)).setCell ⟨w.heap.size, 3, none⟩ (.int .i64 s.budget)).setCell ⟨w.heap.size, 4, none⟩ (.int .i64 s.window)) = W3 at *
    clear hW3 hxS c1 f1 c4 f4 S1 S2 X1 X2
    by_cases hf : FitsP s x
    · have HE := Lib.hid (fits_yes hf)
      have hcl := (fits_all hf).2.2.2.2.2
      have HFP := Lib.hid hf
      clear hf
      refine (fits_at s x A c _ (h.ext hx03) hl HE.out).mono ?_
      rintro e w4 ⟨rfl, hx4⟩
      clear c2 f2 c3 f3
      have S4 := E.Blk.ext S3 hx4
      have X4 := E.Blk.ext X3 hx4
      obtain ⟨c2, f2⟩ := S4.facts
      obtain ⟨c3, f3⟩ := X4.facts
      have hq1 := due_le hB1 hB6 (show 0 ≤ (x.keys.length : Int) - x.clean by omega) (by omega)
      have hq2 : 0 ≤ (x.keys.length : Int) - x.clean + s.budget - 1 := by omega
      have hbn : ¬ s.budget = 0 := by omega
      have hbnb : (s.budget == 0) = false := by simpa using hbn
      have hB0 : 0 ≤ s.budget := by omega
      go_wp2_with fail
      clear c2 f2 c3 f3
      have hx04 := hx03.trans hx4
      have hSl4 := h.ext hx04
      go_loopw [7, 8, 9, 10] (fun t _ _ _ wr => ∃ (T C : Int) (A' : Option Addr) (c' : Nat), t = .int .i64 T ∧ E.Ext w wr ∧ SetupB wr w.heap.size s ∧ ShelfB wr (w.heap.size + 1) ⟨x.base, x.keys, C⟩ A' c' ∧ Sl wr 3 A' x.keys.length c' (keyCells x.keys) ∧ 0 ≤ C ∧ C ≤ x.keys.length ∧ BG.due ((x.keys.length : Int) - C) s.budget = T ∧ T ≤ 20) (fun t _ _ _ _ => (intOf t).toNat)
      case atStart => exact ⟨_, x.clean, A, c, rfl, hx04, S4, X4, hSl4, hcl.1, hcl.2, rfl, hq1.2⟩
      case round =>
        obtain ⟨T, C, A', c', rfl, hx5, S5, X5, hSl5, hC0, hC1, hdue, hT20⟩ := hrel
        have hdz := due_zero hB1 hB6 (show 0 ≤ (x.keys.length : Int) - C by omega)
        have hst := @due_step ((x.keys.length : Int) - C) _ hB1 hB6
        rw [hdue] at hdz hst
        have HDU := Lib.hid hdue
        have HST := Lib.hid hst
        clear hdue hst hq1 hq2
        obtain ⟨c2, f2⟩ := S5.facts
        obtain ⟨c3, f3⟩ := X5.facts
        have hlt5 := X5.lt
        by_cases hT0 : 0 < T
        · have hClt : C < x.keys.length := by have := hdz.1 hT0; omega
          clear hdz
          have hq0 : ticks s ⟨x.base, x.keys, C⟩ = min s.budget ((x.keys.length : Int) - C) := rfl
          have HTK := Lib.hid (tick_yes (fits_clean HFP.out hC0 hC1))
          generalize ticks s ⟨x.base, x.keys, C⟩ = q at *
          have hqb : 0 ≤ q ∧ q ≤ (x.keys.length : Int) - C := by omega
          have HQ := Lib.hid hq0
          clear hq0
          obtain ⟨hqb1, hqb2⟩ := hqb
          go_wp2_with fail
          refine (tick_at s ⟨x.base, x.keys, C⟩ A' c' _ hSl5 hl HTK.out).mono ?_
          rintro e w6 ⟨A6, c6, rfl, hx6, ho6⟩
          dsimp only [Shelf.val]
          clear c2 f2 c3 f3
          have X6 := X5.ext hx6
          have S6 := S5.ext hx6
          obtain ⟨c3, f3⟩ := X6.facts
          have hlt6 := X6.lt
          have hxS7 : E.ExtS (fun i => i = w.heap.size + 1) w6 (((w6.setCell ⟨w.heap.size + 1, 0, none⟩ (.int .i64 x.base)).setCell ⟨w.heap.size + 1, 1, none⟩ (.slice A6 x.keys.length c6)).setCell ⟨w.heap.size + 1, 2, none⟩ (.int .i64 (C + q))) := by
            repeat (refine E.ExtS.set ?_ (by simp) _)
            exact E.ExtS.refl _ _
          have X7 : ShelfB _ (w.heap.size + 1) ⟨x.base, x.keys, C + q⟩ A6 c6 := (((X6.set 0 (.int .i64 x.base)).set 1 (.slice A6 x.keys.length c6)).set 2 (.int .i64 (C + q)))
          have S7 : SetupB _ w.heap.size s := S6.extS hxS7 (fun e => by omega)
          have hSl7 := own_sl' (own_extS ho6 hxS7 (fun g cs hg e => hg.ne X6 (by decide) e))
          have hx7 := (hx5.trans hx6).thenS hxS7 (fun i hi e => by have e' : i = w.heap.size + 1 := e; omega)
          have hxa := E.Ext.alloc (((w6.setCell ⟨w.heap.size + 1, 0, none⟩ (.int .i64 x.base)).setCell ⟨w.heap.size + 1, 1, none⟩ (.slice A6 x.keys.length c6)).setCell ⟨w.heap.size + 1, 2, none⟩ (.int .i64 (C + q))) (.cells #[.int .i64 x.base, .slice A6 x.keys.length c6, .int .i64 (C + q)] 26)
          have hdu : BG.due ((x.keys.length : Int) - (C + q)) s.budget = T - 1 := by
            have h1 := HST.out (by omega)
            rw [← HQ.out] at h1
            rw [← h1]
            congr 1
            omega
          have HD2 := Lib.hid hdu
          clear hdu
          go_wp2_with fail
          go_roundw
          case rel => exact ⟨_, C + q, A6, c6, rfl, hx7.trans hxa, E.Blk.ext S7 hxa, E.Blk.ext X7 hxa, hSl7.ext hxa, by omega, by omega, HD2.out, by omega⟩
          case measure => simp [intOf]; omega
        · have hTe : T = 0 := by
            have := (due_le hB1 hB6 (show 0 ≤ (x.keys.length : Int) - C by omega) (by omega)).1
            rw [HDU.out] at this
            omega
          have hCe : C = x.keys.length := by
            have : ¬ 0 < (x.keys.length : Int) - C := fun e => hT0 (hdz.2 e)
            omega
          clear hdz hT0
          subst hTe
          subst hCe
          go_wp2_with fail
          go_ret
          exact ⟨rfl, hx5⟩
    · have HE := Lib.hid (fits_no hf)
      clear hf
      refine (fits_at s x A c _ (h.ext hx03) hl HE.out).mono ?_
      rintro e w4 ⟨rfl, hx4⟩
      go_wp2_with fail
      go_ret
      exact ⟨rfl, hx03.trans hx4⟩
end Go.Proofs.Ytedpkficechjnaa.BH
