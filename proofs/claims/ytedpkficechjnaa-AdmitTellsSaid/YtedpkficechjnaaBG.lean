/- small; the law AdmitClears, walked. -/
import Derived.Test.YtedpkficechjnaaBE
namespace Go.Proofs.Ytedpkficechjnaa.BG
open Go.RowKit
open Go.Proofs.Ytedpkficechjnaa
open Go.Proofs.Ytedpkficechjnaa.KA Go.Proofs.Ytedpkficechjnaa.K Go.Proofs.Ytedpkficechjnaa.KB Go.Proofs.Ytedpkficechjnaa.KI Go.Proofs.Ytedpkficechjnaa.KQ Go.Proofs.Ytedpkficechjnaa.S Go.Proofs.Ytedpkficechjnaa.KR Go.Proofs.Ytedpkficechjnaa.KS Go.Proofs.Ytedpkficechjnaa.KT Go.Proofs.Ytedpkficechjnaa.KO Go.Proofs.Ytedpkficechjnaa.KU Go.Proofs.Ytedpkficechjnaa.AS Go.Proofs.Ytedpkficechjnaa.AT Go.Proofs.Ytedpkficechjnaa.AU Go.Proofs.Ytedpkficechjnaa.AV Go.Proofs.Ytedpkficechjnaa.AW Go.Proofs.Ytedpkficechjnaa.AX Go.Proofs.Ytedpkficechjnaa.AY Go.Proofs.Ytedpkficechjnaa.BA Go.Proofs.Ytedpkficechjnaa.BB Go.Proofs.Ytedpkficechjnaa.BD Go.Proofs.Ytedpkficechjnaa.BE
set_option linter.unusedVariables false
set_option linter.unusedSimpArgs false

set_option maxHeartbeats 400000 in
theorem pick_any (x : Int) (n : Nat) (w : World) (h1 : 0 < n) (h2 : n ≤ 1000) : Calls Try.prog 29 #[.int .i64 x, .int .i64 n] w fun e w' => e = .returned (.int .i64 (x % (n : Int))) ∧ w = w' := by
  have hb1 : -(n : Int) < x.tmod n := by have := Int.lt_tmod_of_pos x (show (0 : Int) < n by omega); omega
  have hb2 : x.tmod n < n := Int.tmod_lt_of_pos x (by omega)
  have hn0 : ¬ (n : Int) = 0 := by omega
  have hne : ((n : Int) == 0) = false := by simpa using hn0
  have hle : ¬ (n : Int) ≤ 0 := by omega
  obtain ⟨r, hr⟩ : ∃ r, x.tmod n = r := ⟨_, rfl⟩
  have hm : x % (n : Int) = if r < 0 then r + n else r := by
    have h3 := @Int.tmod_eq_emod x (n : Int)
    have h4 := Int.emod_nonneg x hn0
    have h5 := Int.emod_lt_of_pos x (show (0 : Int) < n by omega)
    split <;> split at h3 <;> (try simp only [Int.natAbs_natCast] at h3) <;> omega
  have HM := Lib.hid hm
  rw [hr] at hb1 hb2
  have hw : IntKind.i64.wrap r = r := IntWalk.i64_in _ (by omega)
  clear hm
  by_cases hr0 : r < 0
  · go_enter Try.func29, Try.ntmps29
    go_wp2
    go_ret
    exact ⟨by show Ending.returned (.int .i64 (r + n)) = _; rw [HM.out, if_pos (by omega)], rfl⟩
  · go_enter Try.func29, Try.ntmps29
    go_wp2
    go_ret
    exact ⟨by show Ending.returned (.int .i64 r) = _; rw [HM.out, if_neg (by omega)], rfl⟩

def smallS (s : Setup) : Setup := ⟨1 + s.keep % ((20 : Nat) : Int), s.horizon % ((100 : Nat) : Int), 1, 1 + s.budget % ((6 : Nat) : Int), 1⟩
set_option maxHeartbeats 800000 in
theorem small_any (s : Setup) (w : World) : Calls Try.prog 28 #[s.val] w fun e w' => e = .returned (smallS s).val ∧ E.Ext w w' := by
  unfold Setup.val
  have h1 := Int.emod_nonneg s.keep (show ((20 : Nat) : Int) ≠ 0 by decide)
  have h2 := Int.emod_lt_of_pos s.keep (show (0 : Int) < ((20 : Nat) : Int) by decide)
  have h3 := Int.emod_nonneg s.budget (show ((6 : Nat) : Int) ≠ 0 by decide)
  have h4 := Int.emod_lt_of_pos s.budget (show (0 : Int) < ((6 : Nat) : Int) by decide)
  obtain ⟨a, ha⟩ : ∃ a, s.keep % ((20 : Nat) : Int) = a := ⟨_, rfl⟩
  obtain ⟨b, hb⟩ : ∃ b, s.budget % ((6 : Nat) : Int) = b := ⟨_, rfl⟩
  obtain ⟨d, hd⟩ : ∃ d, s.horizon % ((100 : Nat) : Int) = d := ⟨_, rfl⟩
  rw [ha] at h1 h2
  rw [hb] at h3 h4
  have P1 := Lib.hid (fun w => pick_any s.keep 20 w (by decide) (by decide))
  have P2 := Lib.hid (fun w => pick_any s.horizon 100 w (by decide) (by decide))
  have P3 := Lib.hid (fun w => pick_any s.budget 6 w (by decide) (by decide))
  rw [ha] at P1
  rw [hd] at P2
  rw [hb] at P3
  have hh : smallS s = ⟨1 + a, d, 1, 1 + b, 1⟩ := by unfold smallS; rw [ha, hb, hd]
  have HH := Lib.hid hh
  clear hh ha hb hd
  have S0 := ((E.Blk.new w 23 #[.int .i64 s.keep, .int .i64 s.horizon, .int .i64 s.ahead, .int .i64 s.budget, .int .i64 s.window]).alloc (.cells #[.int .i64 0, .int .i64 0, .int .i64 0, .int .i64 0, .int .i64 0] 23))
  have R0 := E.Blk.new (w.alloc (.cells #[.int .i64 s.keep, .int .i64 s.horizon, .int .i64 s.ahead, .int .i64 s.budget, .int .i64 s.window] 23)) 23 #[.int .i64 0, .int .i64 0, .int .i64 0, .int .i64 0, .int .i64 0]
  simp only [World.size_alloc] at R0
  go_enter Try.func28, Try.ntmps28
  go_wp2_with fail
  refine EZ.wp_plan E.ext_pre [12] [] [(0, true), (1, true), (4, true), (5, true), (7, true), (8, true), (2, false), (3, true), (6, false), (9, false), (10, true), (11, true), (12, false)] (by kernel_rfl) (by kernel_rfl) ?_
  repeat (first | (refine EZ.plan_pure (by simp only [List.getElem?_toArray, List.getElem?_cons_succ, List.getElem?_cons_zero]; rfl) (by rfl) (fun K hK => ?_); (go_simp; try go_bits; try go_simp); refine hK _ ?_; clear hK K) | (refine EZ.plan_load (by simp only [List.getElem?_toArray, List.getElem?_cons_succ, List.getElem?_cons_zero]; rfl) (by rfl) (by rfl) (by rfl) (fun K hK => ?_); (go_simp; try go_bits; try go_simp); refine hK _ ?_; clear hK K) | (refine EZ.plan_skip (E.Ext.refl _) (by simp only [List.getElem?_toArray, List.getElem?_cons_succ, List.getElem?_cons_zero]; rfl) (by rfl) (fun K hK => ?_); (go_simp; try go_bits; try go_simp); refine hK _ ?_; clear hK K))
  refine EZ.plan_eff (by simp only [List.getElem?_toArray, List.getElem?_cons_succ, List.getElem?_cons_zero]; rfl) (by rfl) (fun K hK => ?_); (go_simp; try go_bits)
  refine (P1.out _).mono ?_; rintro e w1 ⟨rfl, rfl⟩; refine hK _ _ (E.Ext.refl _) ?_; clear hK K
  repeat (first | (refine EZ.plan_pure (by simp only [List.getElem?_toArray, List.getElem?_cons_succ, List.getElem?_cons_zero]; rfl) (by rfl) (fun K hK => ?_); (go_simp; try go_bits; try go_simp); refine hK _ ?_; clear hK K) | (refine EZ.plan_load (by simp only [List.getElem?_toArray, List.getElem?_cons_succ, List.getElem?_cons_zero]; rfl) (by rfl) (by rfl) (by rfl) (fun K hK => ?_); (go_simp; try go_bits; try go_simp); refine hK _ ?_; clear hK K) | (refine EZ.plan_skip (E.Ext.refl _) (by simp only [List.getElem?_toArray, List.getElem?_cons_succ, List.getElem?_cons_zero]; rfl) (by rfl) (fun K hK => ?_); (go_simp; try go_bits; try go_simp); refine hK _ ?_; clear hK K))
  refine EZ.plan_eff (by simp only [List.getElem?_toArray, List.getElem?_cons_succ, List.getElem?_cons_zero]; rfl) (by rfl) (fun K hK => ?_); (go_simp; try go_bits)
  refine (P2.out _).mono ?_; rintro e w2 ⟨rfl, rfl⟩; refine hK _ _ (E.Ext.refl _) ?_; clear hK K
  repeat (first | (refine EZ.plan_pure (by simp only [List.getElem?_toArray, List.getElem?_cons_succ, List.getElem?_cons_zero]; rfl) (by rfl) (fun K hK => ?_); (go_simp; try go_bits; try go_simp); refine hK _ ?_; clear hK K) | (refine EZ.plan_load (by simp only [List.getElem?_toArray, List.getElem?_cons_succ, List.getElem?_cons_zero]; rfl) (by rfl) (by rfl) (by rfl) (fun K hK => ?_); (go_simp; try go_bits; try go_simp); refine hK _ ?_; clear hK K) | (refine EZ.plan_skip (E.Ext.refl _) (by simp only [List.getElem?_toArray, List.getElem?_cons_succ, List.getElem?_cons_zero]; rfl) (by rfl) (fun K hK => ?_); (go_simp; try go_bits; try go_simp); refine hK _ ?_; clear hK K))
  refine EZ.plan_eff (by simp only [List.getElem?_toArray, List.getElem?_cons_succ, List.getElem?_cons_zero]; rfl) (by rfl) (fun K hK => ?_); (go_simp; try go_bits)
  refine (P3.out _).mono ?_; rintro e w3 ⟨rfl, rfl⟩; refine hK _ _ (E.Ext.refl _) ?_; clear hK K
  repeat (first | (refine EZ.plan_pure (by simp only [List.getElem?_toArray, List.getElem?_cons_succ, List.getElem?_cons_zero]; rfl) (by rfl) (fun K hK => ?_); (go_simp; try go_bits; try go_simp); refine hK _ ?_; clear hK K) | (refine EZ.plan_load (by simp only [List.getElem?_toArray, List.getElem?_cons_succ, List.getElem?_cons_zero]; rfl) (by rfl) (by rfl) (by rfl) (fun K hK => ?_); (go_simp; try go_bits; try go_simp); refine hK _ ?_; clear hK K) | (refine EZ.plan_skip (E.Ext.refl _) (by simp only [List.getElem?_toArray, List.getElem?_cons_succ, List.getElem?_cons_zero]; rfl) (by rfl) (fun K hK => ?_); (go_simp; try go_bits; try go_simp); refine hK _ ?_; clear hK K))
  refine EZ.plan_last (by simp only [List.getElem?_toArray, List.getElem?_cons_succ, List.getElem?_cons_zero]; rfl) (by rfl) (by decide) (fun K hK => ?_); (go_simp; try go_bits); refine hK _ _ ?_; clear hK K
  repeat (first | (refine EZ.plan_pure (by simp only [List.getElem?_toArray, List.getElem?_cons_succ, List.getElem?_cons_zero]; rfl) (by rfl) (fun K hK => ?_); (go_simp; try go_bits; try go_simp); refine hK _ ?_; clear hK K) | (refine EZ.plan_load (by simp only [List.getElem?_toArray, List.getElem?_cons_succ, List.getElem?_cons_zero]; rfl) (by rfl) (by rfl) (by rfl) (fun K hK => ?_); (go_simp; try go_bits; try go_simp); refine hK _ ?_; clear hK K) | (refine EZ.plan_skip (E.Ext.refl _) (by simp only [List.getElem?_toArray, List.getElem?_cons_succ, List.getElem?_cons_zero]; rfl) (by rfl) (fun K hK => ?_); (go_simp; try go_bits; try go_simp); refine hK _ ?_; clear hK K))
  refine EZ.plan_nil ?_
  go_wp2_with fail
  rw [HH.out]
  refine bodyPost_ret (v := Setup.val ⟨1 + a, d, 1, 1 + b, 1⟩) (by simp [results, Try.results28, go_sem, Setup.val]) rfl ⟨rfl, ?_⟩
  first
    | exact ((E.Ext.alloc _ _).trans (E.Ext.alloc _ _)).trans (E.Ext.drew _)
    | (refine E.Ext.trans ?_ (E.Ext.drew _)
       repeat (refine E.Ext.setCell ?_ (by simp <;> omega) _)
       exact (E.Ext.alloc _ _).trans (E.Ext.alloc _ _))

theorem fits_clean {s : Setup} {x : Shelf} (h : FitsP s x) {C : Int} (h0 : 0 ≤ C) (h1 : C ≤ x.keys.length) : FitsP s ⟨x.base, x.keys, C⟩ := by
  obtain ⟨a, b, c⟩ := h
  refine ⟨?_, b, c⟩
  unfold shapeB at a ⊢
  simp only [Bool.and_eq_true, win_iff, decide_eq_true_eq] at a ⊢
  exact ⟨a.1, a.2.1, a.2.2.1, h0, h1⟩
theorem small_budget (s : Setup) : 1 ≤ (smallS s).budget ∧ (smallS s).budget ≤ 6 := by
  unfold smallS
  have h3 := Int.emod_nonneg s.budget (show ((6 : Nat) : Int) ≠ 0 by decide)
  have h4 := Int.emod_lt_of_pos s.budget (show (0 : Int) < ((6 : Nat) : Int) by decide)
  simp only
  omega
/-- How many ticks are left. -/
def due (d B : Int) : Int := (d + B - 1) / B
theorem due_step {d B : Int} (hB : 1 ≤ B) (hB6 : B ≤ 6) (hd : 0 < d) : due (d - min B d) B = due d B - 1 := by
  unfold due
  have : B = 1 ∨ B = 2 ∨ B = 3 ∨ B = 4 ∨ B = 5 ∨ B = 6 := by omega
  rcases this with rfl | rfl | rfl | rfl | rfl | rfl <;> omega
theorem due_zero {d B : Int} (hB : 1 ≤ B) (hB6 : B ≤ 6) (hd : 0 ≤ d) : 0 < due d B ↔ 0 < d := by
  unfold due
  have : B = 1 ∨ B = 2 ∨ B = 3 ∨ B = 4 ∨ B = 5 ∨ B = 6 := by omega
  rcases this with rfl | rfl | rfl | rfl | rfl | rfl <;> omega
theorem due_le {d B : Int} (hB : 1 ≤ B) (hB6 : B ≤ 6) (hd : 0 ≤ d) (hd2 : d ≤ 20) : 0 ≤ due d B ∧ due d B ≤ 20 := by
  unfold due
  have : B = 1 ∨ B = 2 ∨ B = 3 ∨ B = 4 ∨ B = 5 ∨ B = 6 := by omega
  rcases this with rfl | rfl | rfl | rfl | rfl | rfl <;> omega
end Go.Proofs.Ytedpkficechjnaa.BG
