/- Put and Tick. -/
import Derived.Test.YtedpkficechjnaaAY
import Derived.Test.YtedpkficechjnaaKU
import Derived.Test.YtedpkficechjnaaEF
import Derived.Test.YtedpkficechjnaaEZ
namespace Go.Proofs.Ytedpkficechjnaa.BA
open Go.RowKit
open Go.Proofs.Ytedpkficechjnaa
open Go.Proofs.Ytedpkficechjnaa.KA Go.Proofs.Ytedpkficechjnaa.K Go.Proofs.Ytedpkficechjnaa.KB Go.Proofs.Ytedpkficechjnaa.KI Go.Proofs.Ytedpkficechjnaa.KQ Go.Proofs.Ytedpkficechjnaa.S Go.Proofs.Ytedpkficechjnaa.KR Go.Proofs.Ytedpkficechjnaa.KS Go.Proofs.Ytedpkficechjnaa.KT Go.Proofs.Ytedpkficechjnaa.KO Go.Proofs.Ytedpkficechjnaa.KU Go.Proofs.Ytedpkficechjnaa.AS Go.Proofs.Ytedpkficechjnaa.AT Go.Proofs.Ytedpkficechjnaa.AU Go.Proofs.Ytedpkficechjnaa.AV Go.Proofs.Ytedpkficechjnaa.AW Go.Proofs.Ytedpkficechjnaa.AX Go.Proofs.Ytedpkficechjnaa.AY
set_option linter.unusedVariables false
set_option linter.unusedSimpArgs false

theorem tick_no {s : Setup} {x : Shelf} (h : ¬ FitsP s x) : tick s x = (noShelf, 0, 2) := if_neg h
theorem tick_yes {s : Setup} {x : Shelf} (h : FitsP s x) : tick s x = (⟨x.base, x.keys, x.clean + ticks s x⟩, ticks s x, 0) := if_pos h

set_option maxRecDepth 8000 in
set_option maxHeartbeats 3200000 in
theorem tick_any (s : Setup) (x : Shelf) (A : Option Addr) (c : Nat) (w : World) (hS : Sl w 3 A x.keys.length c (keyCells x.keys)) (hl : x.keys.length ≤ 1099511627776) :
    Calls Try.prog 17 #[s.val, x.val A c] w (OwnedS w (tick s x).1 (tick s x).2.1 (tick s x).2.2) := by
  have hx0 := ((E.Ext.alloc w (.cells #[.int .i64 s.keep, .int .i64 s.horizon, .int .i64 s.ahead, .int .i64 s.budget, .int .i64 s.window] 23)).trans (E.Ext.alloc _ (.cells #[.int .i64 x.base, .slice A x.keys.length c, .int .i64 x.clean] 26))).trans (E.Ext.alloc _ (.cells #[.int .i64 0, .slice none 0 0, .int .i64 0] 26))
  by_cases hf : FitsP s x
  · have HT := Lib.hid (tick_yes hf)
    have HE := Lib.hid (fits_yes hf)
    obtain ⟨⟨a1, a2⟩, ⟨a3, a4⟩, ⟨a5, a6⟩, ⟨a7, a8⟩, a9, a10, a11⟩ := fits_all hf
    have hk200 := fits_len hf
    clear hf
    unfold Shelf.val Setup.val
    go_enter Try.func17, Try.ntmps17
    go_wp2_with fail
    refine (fits_any s x A c _ (hS.ext hx0) hl).mono ?_
    rintro e w1 ⟨rfl, hx1⟩
    rw [HE.out]
    have S1 : SetupB w1 w.heap.size s := E.blk2 hx1 rfl
    have X1 : ShelfB w1 (w.heap.size + 1) x A c := by have := E.blk1 hx1 rfl; simp only [World.size_alloc] at this; exact this
    have R1 : E.Blk w1 (w.heap.size + 1 + 1) 26 #[.int .i64 0, .slice none 0 0, .int .i64 0] := by have := E.blk0 hx1 rfl; simp only [World.size_alloc] at this; exact this
    have hx01 := hx0.trans hx1
    obtain ⟨c1, f1⟩ := E.Blk.facts S1
    obtain ⟨c2, f2⟩ := E.Blk.facts X1
    go_wp2_with fail
    all_goals
      refine EZ.wp_plan E.ext_pre [11] [10] [(0, true), (1, true), (2, true), (3, true), (5, true), (6, true), (7, true), (8, true), (10, true), (4, false), (9, true), (11, false), (12, true), (13, true)] (by kernel_rfl) (by kernel_rfl) ?_
      repeat (first | (refine EZ.plan_pure (by simp only [List.getElem?_toArray, List.getElem?_cons_succ, List.getElem?_cons_zero]; rfl) (by rfl) (fun K hK => ?_); (go_simp; try go_bits; try go_simp); refine hK _ ?_; clear hK K) | (refine EZ.plan_load (by simp only [List.getElem?_toArray, List.getElem?_cons_succ, List.getElem?_cons_zero]; rfl) (by rfl) (by rfl) (by rfl) (fun K hK => ?_); (go_simp; try go_bits; try go_simp); refine hK _ ?_; clear hK K) | (refine EZ.plan_skip (E.Ext.refl _) (by simp only [List.getElem?_toArray, List.getElem?_cons_succ, List.getElem?_cons_zero]; rfl) (by rfl) (fun K hK => ?_); (go_simp; try go_bits; try go_simp); refine hK _ ?_; clear hK K))
      refine EZ.plan_eff (by simp only [List.getElem?_toArray, List.getElem?_cons_succ, List.getElem?_cons_zero]; rfl) (by rfl) (fun K hK => ?_); (go_simp; try go_bits)
      refine (clone_keys x.keys A c _ ((hS.ext hx01).ext (E.Ext.drew _)) hl).mono ?_; rintro e w2 ⟨A2, c4, rfl, hx2, ho⟩; refine hK _ _ hx2 ?_; clear hK K
      have hx12 := (E.Ext.drew w1).trans hx2
      have R2 := E.Blk.ext R1 hx12
      have ho2 := own_mono ho (show w.heap.size ≤ _ by have := hx01.size; have := hx12.size; simp; omega)
      clear c1 f1 c2 f2
      obtain ⟨c1, f1⟩ := E.Blk.facts R2
      have hrlt := R2.lt
      repeat (first | (refine EZ.plan_pure (by simp only [List.getElem?_toArray, List.getElem?_cons_succ, List.getElem?_cons_zero]; rfl) (by rfl) (fun K hK => ?_); (go_simp; try go_bits; try go_simp); refine hK _ ?_; clear hK K) | (refine EZ.plan_load (by simp only [List.getElem?_toArray, List.getElem?_cons_succ, List.getElem?_cons_zero]; rfl) (by rfl) (by rfl) (by rfl) (fun K hK => ?_); (go_simp; try go_bits; try go_simp); refine hK _ ?_; clear hK K) | (refine EZ.plan_skip (E.Ext.refl _) (by simp only [List.getElem?_toArray, List.getElem?_cons_succ, List.getElem?_cons_zero]; rfl) (by rfl) (fun K hK => ?_); (go_simp; try go_bits; try go_simp); refine hK _ ?_; clear hK K))
      refine EZ.plan_last (by simp only [List.getElem?_toArray, List.getElem?_cons_succ, List.getElem?_cons_zero]; rfl) (by rfl) (by decide) (fun K hK => ?_); (go_simp; try go_bits); refine hK _ _ ?_; clear hK K
      repeat (first | (refine EZ.plan_pure (by simp only [List.getElem?_toArray, List.getElem?_cons_succ, List.getElem?_cons_zero]; rfl) (by rfl) (fun K hK => ?_); (go_simp; try go_bits; try go_simp); refine hK _ ?_; clear hK K) | (refine EZ.plan_load (by simp only [List.getElem?_toArray, List.getElem?_cons_succ, List.getElem?_cons_zero]; rfl) (by rfl) (by rfl) (by rfl) (fun K hK => ?_); (go_simp; try go_bits; try go_simp); refine hK _ ?_; clear hK K) | (refine EZ.plan_skip (E.Ext.refl _) (by simp only [List.getElem?_toArray, List.getElem?_cons_succ, List.getElem?_cons_zero]; rfl) (by rfl) (fun K hK => ?_); (go_simp; try go_bits; try go_simp); refine hK _ ?_; clear hK K))
      refine EZ.plan_nil ?_
      go_wp2_with fail
      have hext : E.Ext w w2 := hx01.trans hx12
      first
        | (have hn : ticks s x = s.budget := by unfold ticks; omega
           refine bodyPost_ret (v := .tuple #[(Shelf.mk x.base x.keys (x.clean + s.budget)).val A2 c4, .int .i64 s.budget, .int .i64 0]) (by simp [results, Try.results17, go_sem, c1, f1, Shelf.val]) rfl ?_
           rw [HT.out, hn]
           refine ⟨A2, c4, rfl, ?_, ?_⟩)
        | (have hn : ticks s x = (x.keys.length : Int) - x.clean := by unfold ticks; omega
           refine bodyPost_ret (v := .tuple #[(Shelf.mk x.base x.keys (x.clean + ((x.keys.length : Int) - x.clean))).val A2 c4, .int .i64 ((x.keys.length : Int) - x.clean), .int .i64 0]) (by simp [results, Try.results17, go_sem, c1, f1, Shelf.val]) rfl ?_
           rw [HT.out, hn]
           refine ⟨A2, c4, rfl, ?_, ?_⟩)
      · repeat (refine E.Ext.setCell ?_ (by simp <;> omega) _)
        exact hext
      · refine own_extS (S := fun k => k = w.heap.size + 1 + 1) ho2 ?_ (fun g cs hg e => hg.ne R2 (by decide) e)
        repeat (refine E.ExtS.set ?_ (by simp) _)
        exact E.ExtS.refl _ _
  · have HT := Lib.hid (tick_no hf)
    have HE := Lib.hid (fits_no hf)
    clear hf
    unfold Shelf.val Setup.val
    go_enter Try.func17, Try.ntmps17
    go_wp2_with fail
    refine (fits_any s x A c _ (hS.ext hx0) hl).mono ?_
    rintro e w1 ⟨rfl, hx1⟩
    rw [HE.out]
    have R1 : E.Blk w1 (w.heap.size + 1 + 1) 26 #[.int .i64 0, .slice none 0 0, .int .i64 0] := by have := E.blk0 hx1 rfl; simp only [World.size_alloc] at this; exact this
    have hx01 := hx0.trans hx1
    obtain ⟨c1, f1⟩ := E.Blk.facts R1
    have hrlt := E.Blk.lt R1
    go_wp2_with fail
    refine bodyPost_ret (v := .tuple #[noShelf.val none 0, .int .i64 0, .int .i64 2]) (by simp [results, Try.results17, go_sem, c1, f1, Shelf.val, noShelf]) rfl ?_
    rw [HT.out]
    refine ⟨none, 0, rfl, ?_, ?_⟩
    · repeat (refine E.Ext.setCell ?_ (by simp <;> omega) _)
      exact hx01
    · exact World.ownsRow_nil _ _ _ _
set_option maxRecDepth 8000 in
set_option maxHeartbeats 3200000 in
theorem tickR_any (s : Setup) (x : Shelf) (A : Option Addr) (c : Nat) (w : World) (hS : Sl w 3 A x.keys.length c (keyCells x.keys)) (hl : x.keys.length ≤ 1099511627776) :
    Calls Try.prog 18 #[s.val, x.val A c] w (OwnedS w (tick s x).1 (tick s x).2.1 (tick s x).2.2) := by
  have hx0 := ((E.Ext.alloc w (.cells #[.int .i64 s.keep, .int .i64 s.horizon, .int .i64 s.ahead, .int .i64 s.budget, .int .i64 s.window] 23)).trans (E.Ext.alloc _ (.cells #[.int .i64 x.base, .slice A x.keys.length c, .int .i64 x.clean] 26))).trans (E.Ext.alloc _ (.cells #[.int .i64 0, .slice none 0 0, .int .i64 0] 26))
  by_cases hf : FitsP s x
  · have HT := Lib.hid (tick_yes hf)
    have HE := Lib.hid (fits_yes hf)
    obtain ⟨⟨a1, a2⟩, ⟨a3, a4⟩, ⟨a5, a6⟩, ⟨a7, a8⟩, a9, a10, a11⟩ := fits_all hf
    have hk200 := fits_len hf
    clear hf
    unfold Shelf.val Setup.val
    go_enter Try.func18, Try.ntmps18
    go_wp2_with fail
    refine (fitsR_any s x A c _ (hS.ext hx0) hl).mono ?_
    rintro e w1 ⟨rfl, hx1⟩
    rw [HE.out]
    have S1 : SetupB w1 w.heap.size s := E.blk2 hx1 rfl
    have X1 : ShelfB w1 (w.heap.size + 1) x A c := by have := E.blk1 hx1 rfl; simp only [World.size_alloc] at this; exact this
    have R1 : E.Blk w1 (w.heap.size + 1 + 1) 26 #[.int .i64 0, .slice none 0 0, .int .i64 0] := by have := E.blk0 hx1 rfl; simp only [World.size_alloc] at this; exact this
    have hx01 := hx0.trans hx1
    obtain ⟨c1, f1⟩ := E.Blk.facts S1
    obtain ⟨c2, f2⟩ := E.Blk.facts X1
    have hmk := own_of_made (W := w1) (e := 28) (size := 3) (cap := 0)
    have hsl := (hS.ext hx01).ext (E.Ext.alloc w1 (.cells #[] 28))
    obtain ⟨c3, f3⟩ := E.Blk.facts (E.Blk.alloc X1 (.cells #[] 28))
    go_wp2_with (at_builtin; refine wpList_append_sl st47 rfl _ _ rfl w1.heap.size _ 0 [] rfl hmk _ _ _ _ rfl hsl (keyCells_one _) (by omega) (by decide) (by simp) ?_; intro v' w2 hown hb _; obtain ⟨A2, c4, hv, _⟩ := own_sl hown; rw [hv] at hown ⊢; have hx12 : E.Ext w1 w2 := (E.Ext.alloc w1 _).then hb; have X2 := E.Blk.ext X1 hx12; have R2 := E.Blk.ext R1 hx12; obtain ⟨c4', f4'⟩ := E.Blk.facts X2; obtain ⟨c5, f5⟩ := E.Blk.facts R2; have hrlt := R2.lt; have hxlt := X2.lt)
    all_goals
      simp only [Nat.zero_add, List.nil_append] at hown
      have ho2 := own_mono hown hx01.size
      go_wp2_with fail
      have hext : E.Ext w w2 := hx01.trans hx12
      first
        | (have hn : ticks s x = s.budget := by unfold ticks; omega
           refine bodyPost_ret (v := .tuple #[(Shelf.mk x.base x.keys (x.clean + s.budget)).val A2 c4, .int .i64 s.budget, .int .i64 0]) (by simp [results, Try.results18, go_sem, c4', f4', c5, f5, Shelf.val]) rfl ?_
           rw [HT.out, hn]
           refine ⟨A2, c4, rfl, ?_, ?_⟩)
        | (have hn : ticks s x = (x.keys.length : Int) - x.clean := by unfold ticks; omega
           refine bodyPost_ret (v := .tuple #[(Shelf.mk x.base x.keys (x.clean + ((x.keys.length : Int) - x.clean))).val A2 c4, .int .i64 ((x.keys.length : Int) - x.clean), .int .i64 0]) (by simp [results, Try.results18, go_sem, c4', f4', c5, f5, Shelf.val]) rfl ?_
           rw [HT.out, hn]
           refine ⟨A2, c4, rfl, ?_, ?_⟩)
      · repeat (refine E.Ext.setCell ?_ (by simp <;> omega) _)
        exact hext
      · refine own_extS (S := fun k => k = w.heap.size + 1 ∨ k = w.heap.size + 1 + 1) ho2 ?_ (fun g cs hg e => ?_)
        · repeat (refine E.ExtS.set ?_ (by simp) _)
          exact E.ExtS.refl _ _
        · rcases e with e | e
          · exact hg.ne X2 (by decide) e
          · exact hg.ne R2 (by decide) e
  · have HT := Lib.hid (tick_no hf)
    have HE := Lib.hid (fits_no hf)
    clear hf
    unfold Shelf.val Setup.val
    go_enter Try.func18, Try.ntmps18
    go_wp2_with fail
    refine (fitsR_any s x A c _ (hS.ext hx0) hl).mono ?_
    rintro e w1 ⟨rfl, hx1⟩
    rw [HE.out]
    have R1 : E.Blk w1 (w.heap.size + 1 + 1) 26 #[.int .i64 0, .slice none 0 0, .int .i64 0] := by have := E.blk0 hx1 rfl; simp only [World.size_alloc] at this; exact this
    have hx01 := hx0.trans hx1
    obtain ⟨c1, f1⟩ := E.Blk.facts R1
    have hrlt := E.Blk.lt R1
    go_wp2_with fail
    refine bodyPost_ret (v := .tuple #[noShelf.val none 0, .int .i64 0, .int .i64 2]) (by simp [results, Try.results18, go_sem, c1, f1, Shelf.val, noShelf]) rfl ?_
    rw [HT.out]
    refine ⟨none, 0, rfl, ?_, ?_⟩
    · repeat (refine E.Ext.setCell ?_ (by simp <;> omega) _)
      exact hx01
    · exact World.ownsRow_nil _ _ _ _

theorem put_err {s : Setup} {x : Shelf} {k : Key} {j : Int} (h : judge s x k = j) (hj : ¬ j = 0) : put s x k = (noShelf, 0, j) := by
  unfold put
  rw [h, if_pos hj]
theorem put_ok {s : Setup} {x : Shelf} {k : Key} (h : judge s x k = 0) : put s x k = (putAt (room s x) k, ((kpos (room s x).keys k : Nat) : Int), 0) := by
  unfold put
  rw [h, if_neg (by simp)]
theorem judge_fits {s : Setup} {x : Shelf} {k : Key} (h : judge s x k = 0) : FitsP s x := by
  by_cases hf : FitsP s x
  · exact hf
  · exfalso
    rw [judge_of s x k (fits_no hf) rfl, bad_er (by decide)] at h
    simp at h
theorem judge_clean {s : Setup} {x : Shelf} {k : Key} (h : judge s x k = 0) (hf : fullB s x = true) : 1 ≤ x.clean := by
  have hff := judge_fits h
  have hc := (fits_all hff).2.2.2.2.2
  rcases Int.lt_or_le x.clean 1 with h1 | h1
  · exfalso
    have h0 : x.clean = 0 := by omega
    have hb : busyB s x = true := by unfold busyB; rw [hf, h0]; rfl
    rw [judge_of s x k rfl rfl, hb] at h
    revert h
    repeat' split
    all_goals first | (rename_i h5; exact absurd rfl h5) | simp
  · exact h1
theorem up_tail {l : List Key} (h : Up l) : Up l.tail := by
  intro i j a b hij ha hb
  rw [List.getElem?_tail] at ha hb
  exact h (i + 1) (j + 1) a b (by omega) ha hb
theorem room_up {s : Setup} {x : Shelf} (h : Up x.keys) : Up (room s x).keys := by
  unfold room
  split
  · exact up_tail h
  · exact h
end Go.Proofs.Ytedpkficechjnaa.BA
