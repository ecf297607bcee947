/- The document's Judge. -/
import Derived.Test.YtedpkficechjnaaAX
namespace Go.Proofs.Ytedpkficechjnaa.AY
open Go.RowKit
open Go.Proofs.Ytedpkficechjnaa
open Go.Proofs.Ytedpkficechjnaa.KA Go.Proofs.Ytedpkficechjnaa.K Go.Proofs.Ytedpkficechjnaa.KB Go.Proofs.Ytedpkficechjnaa.KI Go.Proofs.Ytedpkficechjnaa.KQ Go.Proofs.Ytedpkficechjnaa.S Go.Proofs.Ytedpkficechjnaa.KR Go.Proofs.Ytedpkficechjnaa.KS Go.Proofs.Ytedpkficechjnaa.KT Go.Proofs.Ytedpkficechjnaa.KO Go.Proofs.Ytedpkficechjnaa.AS Go.Proofs.Ytedpkficechjnaa.AT Go.Proofs.Ytedpkficechjnaa.AU Go.Proofs.Ytedpkficechjnaa.AV Go.Proofs.Ytedpkficechjnaa.AW Go.Proofs.Ytedpkficechjnaa.AX
set_option linter.unusedVariables false
set_option linter.unusedSimpArgs false

theorem bad_er {er : Int} {k : Key} (h : ¬ er = 0) : badB er k = true := by unfold badB; simp [h]
theorem bad_win {k : Key} (h : win k.stamp 0 1099511627776 = false) : badB 0 k = true := by unfold badB; simp [h]
theorem bad_no {k : Key} (h : win k.stamp 0 1099511627776 = true) : badB 0 k = false := by unfold badB; simp [h]

set_option maxRecDepth 8000 in
set_option maxHeartbeats 3200000 in
theorem judgeR_any (s : Setup) (x : Shelf) (A : Option Addr) (c : Nat) (k : Key) (w : World) (h : Sl w 3 A x.keys.length c (keyCells x.keys)) (hl : x.keys.length ≤ 1099511627776) :
    Calls Try.prog 25 #[s.val, x.val A c, k.val] w fun e w' => e = .returned (.int .i64 (judge s x k)) ∧ E.Ext w w' := by
  have hcap := h.cap
  have hmax := h.max
  have hx0 := ((E.Ext.alloc w (.cells #[.int .i64 s.keep, .int .i64 s.horizon, .int .i64 s.ahead, .int .i64 s.budget, .int .i64 s.window] 23)).trans (E.Ext.alloc _ (.cells #[.int .i64 x.base, .slice A x.keys.length c, .int .i64 x.clean] 26))).trans (E.Ext.alloc _ (.cells #[.int .i64 k.stamp, .int .i64 k.sensor, .int .i64 k.seq] 28))
  unfold Shelf.val Setup.val Key.val
  go_enter Try.func25, Try.ntmps25
  go_wp2_with fail
  refine (floorR_any s x A c _ (h.ext hx0) hl).mono ?_
  rintro e w1 ⟨rfl, hx1⟩
  have S1 : SetupB w1 w.heap.size s := E.blk2 hx1 rfl
  have X1 : ShelfB w1 (w.heap.size + 1) x A c := by have := E.blk1 hx1 rfl; simp only [World.size_alloc] at this; exact this
  have K1 : KeyB w1 (w.heap.size + 1 + 1) k := by have := E.blk0 hx1 rfl; simp only [World.size_alloc] at this; exact this
  have hx01 := hx0.trans hx1
  obtain ⟨er, her⟩ : ∃ er, fitsE s x = er := ⟨_, rfl⟩
  obtain ⟨f, hf⟩ : ∃ f, floorV s x = f := ⟨_, rfl⟩
  have HJ := Lib.hid (judge_of s x k her hf)
  have HE := Lib.hid her
  rw [her, hf]
  clear her hf
  obtain ⟨c1, f1⟩ := E.Blk.facts S1
  obtain ⟨c2, f2⟩ := E.Blk.facts X1
  obtain ⟨c3, f3⟩ := E.Blk.facts K1
  have hbe := full_beq s x
  cases hfull : fullB s x with
  | true =>
    rw [hfull] at hbe
    have HFU := Lib.hid hfull
    clear hfull
    by_cases her0 : er = 0
    · subst her0
      go_wp2_with fail
      refine (withinR_any _ _ _ _).mono ?_
      rintro e w' ⟨rfl, rfl⟩
      cases hw : win k.stamp 0 1099511627776 with
      | false =>
        have HR := Lib.hid (show judge s x k = 2 by rw [HJ.out, bad_win hw]; rfl)
        go_wp2_with fail
        go_ret
        exact ⟨by rw [HR.out]; rfl, hx01⟩
      | true =>
        have HB := Lib.hid (bad_no hw)
        clear hw
        go_wp2_with fail
        refine (twinR_any x.keys A c k _ (h.ext hx01) hl).mono ?_
        rintro e w2 ⟨rfl, hx2⟩
        have hx02 := hx01.trans hx2
        clear c1 f1 c2 f2 c3 f3
        obtain ⟨c1, f1⟩ := E.Blk.facts (E.Blk.ext S1 hx2)
        obtain ⟨c2, f2⟩ := E.Blk.facts (E.Blk.ext X1 hx2)
        obtain ⟨c3, f3⟩ := E.Blk.facts (E.Blk.ext K1 hx2)
        cases ht : twinB x.keys k with
        | true =>
          have HR := Lib.hid (show judge s x k = 7 by rw [HJ.out]; simp [HB.out, ht])
          go_wp2_with fail
          go_ret
          exact ⟨by rw [HR.out]; rfl, hx02⟩
        | false =>
          have HT := Lib.hid ht
          clear ht
          by_cases hst : k.stamp < f
          · have HR := Lib.hid (show judge s x k = 6 by rw [HJ.out]; simp [HB.out, HT.out, late_low (s := s) (x := x) hst])
            go_wp2_with fail
            refine E.wp_plan E.ext_pre 1000000 [(0, true), (1, true), (2, true), (3, true), (4, true), (5, true), (6, true), (7, true), (8, true), (9, true), (10, true), (11, true), (12, false), (13, true), (14, true), (15, true)] (by kernel_rfl) (by kernel_rfl) ?_
            repeat (first | (refine E.plan_pure (by simp only [List.getElem?_toArray, List.getElem?_cons_succ, List.getElem?_cons_zero]; rfl) (by rfl) (fun K hK => ?_); (go_simp; try go_bits; try go_simp); refine hK _ ?_; clear hK K) | (refine E.plan_load (by simp only [List.getElem?_toArray, List.getElem?_cons_succ, List.getElem?_cons_zero]; rfl) (by rfl) (by rfl) (fun K hK => ?_); (go_simp; try go_bits; try go_simp); refine hK _ ?_; clear hK K) | (refine E.plan_skip (E.Ext.refl _) (by simp only [List.getElem?_toArray, List.getElem?_cons_succ, List.getElem?_cons_zero]; rfl) (by rfl) (fun K hK => ?_); (go_simp; try go_bits; try go_simp); refine hK _ ?_; clear hK K))
            refine E.plan_nil ?_
            go_wp2_with fail
            go_ret
            exact ⟨by rw [HR.out]; rfl, hx02.trans (E.Ext.drew _)⟩
          · have hd : decide (k.stamp < f) = false := by simpa using hst
            have hlen := full_len (not_bad HE.out HB.out) HFU.out
            have hll := late_head (s := s) (x := x) (k := k) (f := f) hst HFU.out hlen
            have HLL := Lib.hid hll
            clear hll hst
            obtain ⟨b, o, rfl, k0, k1, k2⟩ := key_at (h.ext hx02) (k := 0) hlen
            simp only [Nat.zero_mul, Nat.add_zero] at k0 k1 k2
            go_wp2_with fail
            refine E.wp_plan E.ext_pre 1000000 [(0, true), (1, true), (2, true), (3, true), (4, true), (5, true), (6, true), (7, true), (8, true), (9, true), (10, true), (11, true), (12, false), (13, true), (14, true), (15, true)] (by kernel_rfl) (by kernel_rfl) ?_
            repeat (first | (refine E.plan_pure (by simp only [List.getElem?_toArray, List.getElem?_cons_succ, List.getElem?_cons_zero]; rfl) (by rfl) (fun K hK => ?_); (go_simp; try go_bits; try go_simp); refine hK _ ?_; clear hK K) | (refine E.plan_load (by simp only [List.getElem?_toArray, List.getElem?_cons_succ, List.getElem?_cons_zero]; rfl) (by rfl) (by rfl) (fun K hK => ?_); (go_simp; try go_bits; try go_simp); refine hK _ ?_; clear hK K) | (refine E.plan_skip (E.Ext.refl _) (by simp only [List.getElem?_toArray, List.getElem?_cons_succ, List.getElem?_cons_zero]; rfl) (by rfl) (fun K hK => ?_); (go_simp; try go_bits; try go_simp); refine hK _ ?_; clear hK K))
            refine E.plan_eff (by simp only [List.getElem?_toArray, List.getElem?_cons_succ, List.getElem?_cons_zero]; rfl) (by rfl) (fun K hK => ?_); (go_simp; try go_bits)
            refine (less14_any k (x.keys[0]) _).mono ?_; rintro e w3 ⟨rfl, hx3⟩; refine hK _ _ hx3 ?_; clear hK K
            have hx03 := hx02.trans ((E.Ext.drew w2).trans hx3)
            clear c1 f1 c2 f2 c3 f3
            obtain ⟨c2, f2⟩ := E.Blk.facts ((E.Blk.ext X1 hx2).ext ((E.Ext.drew w2).trans hx3))
            cases hq : k.lt (x.keys[0]) with
            | true =>
              have HR := Lib.hid (show judge s x k = 6 by rw [HJ.out]; simp [HB.out, HT.out, HLL.out, hq])
              repeat (first | (refine E.plan_pure (by simp only [List.getElem?_toArray, List.getElem?_cons_succ, List.getElem?_cons_zero]; rfl) (by rfl) (fun K hK => ?_); (go_simp; try go_bits; try go_simp); refine hK _ ?_; clear hK K) | (refine E.plan_load (by simp only [List.getElem?_toArray, List.getElem?_cons_succ, List.getElem?_cons_zero]; rfl) (by rfl) (by rfl) (fun K hK => ?_); (go_simp; try go_bits; try go_simp); refine hK _ ?_; clear hK K) | (refine E.plan_skip (E.Ext.refl _) (by simp only [List.getElem?_toArray, List.getElem?_cons_succ, List.getElem?_cons_zero]; rfl) (by rfl) (fun K hK => ?_); (go_simp; try go_bits; try go_simp); refine hK _ ?_; clear hK K))
              refine E.plan_nil ?_
              go_wp2_with fail
              go_ret
              exact ⟨by rw [HR.out]; rfl, hx03⟩
            | false =>
              have HL := Lib.hid (HLL.out.trans hq)
              clear hq
              repeat (first | (refine E.plan_pure (by simp only [List.getElem?_toArray, List.getElem?_cons_succ, List.getElem?_cons_zero]; rfl) (by rfl) (fun K hK => ?_); (go_simp; try go_bits; try go_simp); refine hK _ ?_; clear hK K) | (refine E.plan_load (by simp only [List.getElem?_toArray, List.getElem?_cons_succ, List.getElem?_cons_zero]; rfl) (by rfl) (by rfl) (fun K hK => ?_); (go_simp; try go_bits; try go_simp); refine hK _ ?_; clear hK K) | (refine E.plan_skip (E.Ext.refl _) (by simp only [List.getElem?_toArray, List.getElem?_cons_succ, List.getElem?_cons_zero]; rfl) (by rfl) (fun K hK => ?_); (go_simp; try go_bits; try go_simp); refine hK _ ?_; clear hK K))
              refine E.plan_nil ?_
              cases hcl : decide (x.clean = 0) with
              | true =>
                have hce : (x.clean == 0) = true := by simpa using hcl
                have HR := Lib.hid (show judge s x k = 12 by rw [HJ.out]; simp [HB.out, HT.out, HL.out, busyB, HFU.out, hcl])
                clear hcl
                go_wp2_with fail
                go_ret
                exact ⟨by rw [HR.out]; rfl, hx03⟩
              | false =>
                have hce : (x.clean == 0) = false := by simpa using hcl
                have HR := Lib.hid (show judge s x k = 0 by rw [HJ.out]; simp [HB.out, HT.out, HL.out, busyB, HFU.out, hcl])
                clear hcl
                go_wp2_with fail
                go_ret
                exact ⟨by rw [HR.out]; rfl, hx03⟩
    · have HR := Lib.hid (show judge s x k = 2 by rw [HJ.out, bad_er her0]; rfl)
      have hen : (er != 0) = true := by simpa using her0
      clear her0
      go_wp2_with fail
      go_ret
      exact ⟨by rw [HR.out]; rfl, hx01⟩
  | false =>
    rw [hfull] at hbe
    have HFU := Lib.hid hfull
    clear hfull
    by_cases her0 : er = 0
    · subst her0
      go_wp2_with fail
      refine (withinR_any _ _ _ _).mono ?_
      rintro e w' ⟨rfl, rfl⟩
      cases hw : win k.stamp 0 1099511627776 with
      | false =>
        have HR := Lib.hid (show judge s x k = 2 by rw [HJ.out, bad_win hw]; rfl)
        go_wp2_with fail
        go_ret
        exact ⟨by rw [HR.out]; rfl, hx01⟩
      | true =>
        have HB := Lib.hid (bad_no hw)
        clear hw
        go_wp2_with fail
        refine (twinR_any x.keys A c k _ (h.ext hx01) hl).mono ?_
        rintro e w2 ⟨rfl, hx2⟩
        have hx02 := hx01.trans hx2
        clear c1 f1 c2 f2 c3 f3
        obtain ⟨c1, f1⟩ := E.Blk.facts (E.Blk.ext S1 hx2)
        obtain ⟨c2, f2⟩ := E.Blk.facts (E.Blk.ext X1 hx2)
        obtain ⟨c3, f3⟩ := E.Blk.facts (E.Blk.ext K1 hx2)
        cases ht : twinB x.keys k with
        | true =>
          have HR := Lib.hid (show judge s x k = 7 by rw [HJ.out]; simp [HB.out, ht])
          go_wp2_with fail
          go_ret
          exact ⟨by rw [HR.out]; rfl, hx02⟩
        | false =>
          have HT := Lib.hid ht
          clear ht
          by_cases hst : k.stamp < f
          · have HR := Lib.hid (show judge s x k = 6 by rw [HJ.out]; simp [HB.out, HT.out, late_low (s := s) (x := x) hst])
            go_wp2_with fail
            refine E.wp_plan E.ext_pre 1000000 [(0, true), (1, true), (2, true), (3, true), (4, true), (5, true), (6, true), (7, true), (8, true), (9, true), (10, true), (11, true), (12, false), (13, true), (14, true), (15, true)] (by kernel_rfl) (by kernel_rfl) ?_
            repeat (first | (refine E.plan_pure (by simp only [List.getElem?_toArray, List.getElem?_cons_succ, List.getElem?_cons_zero]; rfl) (by rfl) (fun K hK => ?_); (go_simp; try go_bits; try go_simp); refine hK _ ?_; clear hK K) | (refine E.plan_load (by simp only [List.getElem?_toArray, List.getElem?_cons_succ, List.getElem?_cons_zero]; rfl) (by rfl) (by rfl) (fun K hK => ?_); (go_simp; try go_bits; try go_simp); refine hK _ ?_; clear hK K) | (refine E.plan_skip (E.Ext.refl _) (by simp only [List.getElem?_toArray, List.getElem?_cons_succ, List.getElem?_cons_zero]; rfl) (by rfl) (fun K hK => ?_); (go_simp; try go_bits; try go_simp); refine hK _ ?_; clear hK K))
            refine E.plan_nil ?_
            go_wp2_with fail
            go_ret
            exact ⟨by rw [HR.out]; rfl, hx02.trans (E.Ext.drew _)⟩
          · have hd : decide (k.stamp < f) = false := by simpa using hst
            have hll := late_not (s := s) (x := x) (k := k) (f := f) hst HFU.out
            have HL := Lib.hid hll
            have HR := Lib.hid (show judge s x k = 0 by rw [HJ.out]; simp [HB.out, HT.out, HL.out, busyB, HFU.out])
            clear hll hst
            go_wp2_with fail
            refine E.wp_plan E.ext_pre 1000000 [(0, true), (1, true), (2, true), (3, true), (4, true), (5, true), (6, true), (7, true), (8, true), (9, true), (10, true), (11, true), (12, false), (13, true), (14, true), (15, true)] (by kernel_rfl) (by kernel_rfl) ?_
            repeat (first | (refine E.plan_pure (by simp only [List.getElem?_toArray, List.getElem?_cons_succ, List.getElem?_cons_zero]; rfl) (by rfl) (fun K hK => ?_); (go_simp; try go_bits; try go_simp); refine hK _ ?_; clear hK K) | (refine E.plan_load (by simp only [List.getElem?_toArray, List.getElem?_cons_succ, List.getElem?_cons_zero]; rfl) (by rfl) (by rfl) (fun K hK => ?_); (go_simp; try go_bits; try go_simp); refine hK _ ?_; clear hK K) | (refine E.plan_skip (E.Ext.refl _) (by simp only [List.getElem?_toArray, List.getElem?_cons_succ, List.getElem?_cons_zero]; rfl) (by rfl) (fun K hK => ?_); (go_simp; try go_bits; try go_simp); refine hK _ ?_; clear hK K))
            refine E.plan_nil ?_
            go_wp2_with fail
            go_ret
            exact ⟨by rw [HR.out]; rfl, hx02.trans (E.Ext.drew _)⟩
    · have HR := Lib.hid (show judge s x k = 2 by rw [HJ.out, bad_er her0]; rfl)
      have hen : (er != 0) = true := by simpa using her0
      clear her0
      go_wp2_with fail
      go_ret
      exact ⟨by rw [HR.out]; rfl, hx01⟩
end Go.Proofs.Ytedpkficechjnaa.AY
