/- RingKnown. -/
import Derived.Test.YtjomgaafnpbmhaaO
import Derived.Test.YtjomgaafnpbmhaaP
namespace Go.Proofs.Ytjomgaafnpbmhaa.R
open Go.RowKit
open Go.Proofs.Ytjomgaafnpbmhaa
open Go.Proofs.Ytjomgaafnpbmhaa.A Go.Proofs.Ytjomgaafnpbmhaa.K Go.Proofs.Ytjomgaafnpbmhaa.B Go.Proofs.Ytjomgaafnpbmhaa.C Go.Proofs.Ytjomgaafnpbmhaa.D Go.Proofs.Ytjomgaafnpbmhaa.F Go.Proofs.Ytjomgaafnpbmhaa.G Go.Proofs.Ytjomgaafnpbmhaa.H Go.Proofs.Ytjomgaafnpbmhaa.I Go.Proofs.Ytjomgaafnpbmhaa.J Go.Proofs.Ytjomgaafnpbmhaa.O Go.Proofs.Ytjomgaafnpbmhaa.P
set_option linter.unusedVariables false
set_option linter.unusedSimpArgs false

theorem new_no (w : World) : Calls Try.prog 7 #[.int .i64 0] w fun e w' => e = .returned (.tuple #[.pointer none, .int .i64 2]) ∧ w = w' := by
  go_enter Try.func7, Try.ntmps7
  go_wp2
  go_ret2
  exact ⟨rfl, rfl⟩

theorem sorted_one (x : Entry) : Sorted [x] := by
  intro i j a b hij h1 h2
  have := (List.getElem?_eq_some_iff.1 h2).1
  simp at this
  omega

theorem ins4 : insert_ 2 [e511] e511 = (0, 0, 7, [e511]) := by decide
theorem c4 : cnt (fun y => decide (y.stamp ≤ 4)) [e511] = 0 := by decide
theorem c5 : cnt (fun y => decide (y.stamp ≤ 5)) [e511] = 1 := by decide
theorem t11 : twin [e511] 1 1 = 0 := by decide
theorem t21 : twin [e511] 2 1 = -1 := by decide

theorem own_sl' {w : World} {base size n : Nat} {e : TypeId} {A : Option Addr} {c : Nat} {xs : List Value} (h : w.ownsRow base e size (.slice A n c) n xs) : Sl w size A n c xs := by
  obtain ⟨A', c', hv, hsl⟩ := own_sl h
  have hcc : A' = A ∧ c' = c := by injection hv with h1 _ h3; exact ⟨h1.symm, h3.symm⟩
  obtain ⟨rfl, rfl⟩ := hcc
  exact hsl

set_option maxHeartbeats 1600000 in
theorem known_any (w : World) : Calls Try.prog 20 #[] w fun e w' => e = .returned (.bool true) ∧ E.Ext w w' := by
  have hS1 : Sorted [e511] := sorted_one _
  go_enter Try.func20, Try.ntmps20
  go_wp2_with fail
  refine (two_any _).mono ?_
  rintro e w1 ⟨b, pb, rfl, hr1, hb, hpb, hx1⟩
  go_wp2_with fail
  refine (drop_yes b pb 2 0 e312 [e511] _ hr1 (by decide)).mono ?_
  rintro e w2 ⟨A, c, rfl, hx2, ho2, hr2⟩
  have hs2 := own_sl' ho2
  dsimp only [Entry.val]
  go_wp2_with fail
  refine E.wp_plan E.ext_pre 1000000 [(0, true), (1, true), (2, true), (3, true), (4, false), (5, false), (6, true), (7, true), (8, true), (9, true), (10, false), (11, false), (12, true), (13, true), (14, true), (15, true), (16, false), (17, true), (18, true), (19, true), (20, true), (21, false), (22, true), (23, true), (24, true), (25, true), (26, false), (27, true), (28, true), (29, true), (30, true), (31, false), (32, true), (33, true)] (by kernel_rfl) (by kernel_rfl) ?_
  repeat (first | (refine E.plan_pure (by simp only [List.getElem?_toArray, List.getElem?_cons_succ, List.getElem?_cons_zero]; rfl) (by rfl) (fun K hK => ?_); (go_simp; try go_bits; try go_simp); refine hK _ ?_; clear hK K) | (refine E.plan_load (by simp only [List.getElem?_toArray, List.getElem?_cons_succ, List.getElem?_cons_zero]; rfl) (by rfl) (by rfl) (fun K hK => ?_); (go_simp; try go_bits; try go_simp); refine hK _ ?_; clear hK K) | (refine E.plan_skip (E.Ext.refl _) (by simp only [List.getElem?_toArray, List.getElem?_cons_succ, List.getElem?_cons_zero]; rfl) (by rfl) (fun K hK => ?_); (go_simp; try go_bits; try go_simp); refine hK _ ?_; clear hK K))
  refine E.plan_eff (by simp only [List.getElem?_toArray, List.getElem?_cons_succ, List.getElem?_cons_zero]; rfl) (by rfl) (fun K hK => ?_); (go_simp; try go_bits)
  refine (J.at_any 3 1 2 _).mono ?_; rintro e w3 ⟨rfl, hx3⟩; refine hK _ _ hx3 ?_; clear hK K
  have hy3 := ((E.Ext.alloc _ _).trans (E.Ext.drew _)).trans hx3
  repeat (first | (refine E.plan_pure (by simp only [List.getElem?_toArray, List.getElem?_cons_succ, List.getElem?_cons_zero]; rfl) (by rfl) (fun K hK => ?_); (go_simp; try go_bits; try go_simp); refine hK _ ?_; clear hK K) | (refine E.plan_load (by simp only [List.getElem?_toArray, List.getElem?_cons_succ, List.getElem?_cons_zero]; rfl) (by rfl) (by rfl) (fun K hK => ?_); (go_simp; try go_bits; try go_simp); refine hK _ ?_; clear hK K) | (refine E.plan_skip (E.Ext.refl _) (by simp only [List.getElem?_toArray, List.getElem?_cons_succ, List.getElem?_cons_zero]; rfl) (by rfl) (fun K hK => ?_); (go_simp; try go_bits; try go_simp); refine hK _ ?_; clear hK K))
  refine E.plan_eff (by simp only [List.getElem?_toArray, List.getElem?_cons_succ, List.getElem?_cons_zero]; rfl) (by rfl) (fun K hK => ?_); (go_simp; try go_bits)
  refine (sameEntry_any e312 (bare 3 1 2) A none c 0 _ (hs2.ext hy3) (bare_sl _ _ _ _)).mono ?_; rintro e w4 ⟨rfl, hx4⟩; refine hK _ _ hx4 ?_; clear hK K
  have hy4 := hy3.trans hx4
  rw [show decide (e312 = bare 3 1 2) = true by decide]
  repeat (first | (refine E.plan_pure (by simp only [List.getElem?_toArray, List.getElem?_cons_succ, List.getElem?_cons_zero]; rfl) (by rfl) (fun K hK => ?_); (go_simp; try go_bits; try go_simp); refine hK _ ?_; clear hK K) | (refine E.plan_load (by simp only [List.getElem?_toArray, List.getElem?_cons_succ, List.getElem?_cons_zero]; rfl) (by rfl) (by rfl) (fun K hK => ?_); (go_simp; try go_bits; try go_simp); refine hK _ ?_; clear hK K) | (refine E.plan_skip (E.Ext.refl _) (by simp only [List.getElem?_toArray, List.getElem?_cons_succ, List.getElem?_cons_zero]; rfl) (by rfl) (fun K hK => ?_); (go_simp; try go_bits; try go_simp); refine hK _ ?_; clear hK K))
  refine E.plan_eff (by simp only [List.getElem?_toArray, List.getElem?_cons_succ, List.getElem?_cons_zero]; rfl) (by rfl) (fun K hK => ?_); (go_simp; try go_bits)
  refine (J.at_any 5 1 1 _).mono ?_; rintro e w5 ⟨rfl, hx5⟩; refine hK _ _ hx5 ?_; clear hK K
  have hy5 := hy4.trans hx5
  repeat (first | (refine E.plan_pure (by simp only [List.getElem?_toArray, List.getElem?_cons_succ, List.getElem?_cons_zero]; rfl) (by rfl) (fun K hK => ?_); (go_simp; try go_bits; try go_simp); refine hK _ ?_; clear hK K) | (refine E.plan_load (by simp only [List.getElem?_toArray, List.getElem?_cons_succ, List.getElem?_cons_zero]; rfl) (by rfl) (by rfl) (fun K hK => ?_); (go_simp; try go_bits; try go_simp); refine hK _ ?_; clear hK K) | (refine E.plan_skip (E.Ext.refl _) (by simp only [List.getElem?_toArray, List.getElem?_cons_succ, List.getElem?_cons_zero]; rfl) (by rfl) (fun K hK => ?_); (go_simp; try go_bits; try go_simp); refine hK _ ?_; clear hK K))
  refine E.plan_eff (by simp only [List.getElem?_toArray, List.getElem?_cons_succ, List.getElem?_cons_zero]; rfl) (by rfl) (fun K hK => ?_); (go_simp; try go_bits)
  refine (puts_yes b pb ⟨2, 1, [e511]⟩ (bare 5 1 1) none 0 0 0 7 [e511] _ ((hr2.mono (fun _ _ _ => trivial)).ext hy5) hS1 (bare_sl _ _ _ _) (by decide) ins4).mono ?_
  rintro e w6 ⟨rfl, hr6, _, hx6⟩
  replace hx6 := hx6 (by decide)
  refine hK _ _ hx6 ?_; clear hK K
  have hy6 := hy5.trans hx6
  repeat (first | (refine E.plan_pure (by simp only [List.getElem?_toArray, List.getElem?_cons_succ, List.getElem?_cons_zero]; rfl) (by rfl) (fun K hK => ?_); (go_simp; try go_bits; try go_simp); refine hK _ ?_; clear hK K) | (refine E.plan_load (by simp only [List.getElem?_toArray, List.getElem?_cons_succ, List.getElem?_cons_zero]; rfl) (by rfl) (by rfl) (fun K hK => ?_); (go_simp; try go_bits; try go_simp); refine hK _ ?_; clear hK K) | (refine E.plan_skip (E.Ext.refl _) (by simp only [List.getElem?_toArray, List.getElem?_cons_succ, List.getElem?_cons_zero]; rfl) (by rfl) (fun K hK => ?_); (go_simp; try go_bits; try go_simp); refine hK _ ?_; clear hK K))
  refine E.plan_eff (by simp only [List.getElem?_toArray, List.getElem?_cons_succ, List.getElem?_cons_zero]; rfl) (by rfl) (fun K hK => ?_); (go_simp; try go_bits)
  refine (until_any b pb ⟨2, 1, [e511]⟩ 4 _ hr6 hS1).mono ?_; rintro e w7 ⟨rfl, hx7⟩; refine hK _ _ hx7 ?_; clear hK K
  dsimp only
  rw [c4]
  repeat (first | (refine E.plan_pure (by simp only [List.getElem?_toArray, List.getElem?_cons_succ, List.getElem?_cons_zero]; rfl) (by rfl) (fun K hK => ?_); (go_simp; try go_bits; try go_simp); refine hK _ ?_; clear hK K) | (refine E.plan_load (by simp only [List.getElem?_toArray, List.getElem?_cons_succ, List.getElem?_cons_zero]; rfl) (by rfl) (by rfl) (fun K hK => ?_); (go_simp; try go_bits; try go_simp); refine hK _ ?_; clear hK K) | (refine E.plan_skip (E.Ext.refl _) (by simp only [List.getElem?_toArray, List.getElem?_cons_succ, List.getElem?_cons_zero]; rfl) (by rfl) (fun K hK => ?_); (go_simp; try go_bits; try go_simp); refine hK _ ?_; clear hK K))
  refine E.plan_eff (by simp only [List.getElem?_toArray, List.getElem?_cons_succ, List.getElem?_cons_zero]; rfl) (by rfl) (fun K hK => ?_); (go_simp; try go_bits)
  refine (until_any b pb ⟨2, 1, [e511]⟩ 5 _ (hr6.ext hx7) hS1).mono ?_; rintro e w8 ⟨rfl, hx8⟩; refine hK _ _ hx8 ?_; clear hK K
  dsimp only
  rw [c5]
  have hx68 := hx7.trans hx8
  repeat (first | (refine E.plan_pure (by simp only [List.getElem?_toArray, List.getElem?_cons_succ, List.getElem?_cons_zero]; rfl) (by rfl) (fun K hK => ?_); (go_simp; try go_bits; try go_simp); refine hK _ ?_; clear hK K) | (refine E.plan_load (by simp only [List.getElem?_toArray, List.getElem?_cons_succ, List.getElem?_cons_zero]; rfl) (by rfl) (by rfl) (fun K hK => ?_); (go_simp; try go_bits; try go_simp); refine hK _ ?_; clear hK K) | (refine E.plan_skip (E.Ext.refl _) (by simp only [List.getElem?_toArray, List.getElem?_cons_succ, List.getElem?_cons_zero]; rfl) (by rfl) (fun K hK => ?_); (go_simp; try go_bits; try go_simp); refine hK _ ?_; clear hK K))
  refine E.plan_eff (by simp only [List.getElem?_toArray, List.getElem?_cons_succ, List.getElem?_cons_zero]; rfl) (by rfl) (fun K hK => ?_); (go_simp; try go_bits)
  refine (twin_any b pb ⟨2, 1, [e511]⟩ 1 1 _ (hr6.ext hx68)).mono ?_; rintro e w9 ⟨rfl, hx9⟩; refine hK _ _ hx9 ?_; clear hK K
  dsimp only
  rw [t11]
  have hx69 := hx68.trans hx9
  repeat (first | (refine E.plan_pure (by simp only [List.getElem?_toArray, List.getElem?_cons_succ, List.getElem?_cons_zero]; rfl) (by rfl) (fun K hK => ?_); (go_simp; try go_bits; try go_simp); refine hK _ ?_; clear hK K) | (refine E.plan_load (by simp only [List.getElem?_toArray, List.getElem?_cons_succ, List.getElem?_cons_zero]; rfl) (by rfl) (by rfl) (fun K hK => ?_); (go_simp; try go_bits; try go_simp); refine hK _ ?_; clear hK K) | (refine E.plan_skip (E.Ext.refl _) (by simp only [List.getElem?_toArray, List.getElem?_cons_succ, List.getElem?_cons_zero]; rfl) (by rfl) (fun K hK => ?_); (go_simp; try go_bits; try go_simp); refine hK _ ?_; clear hK K))
  refine E.plan_eff (by simp only [List.getElem?_toArray, List.getElem?_cons_succ, List.getElem?_cons_zero]; rfl) (by rfl) (fun K hK => ?_); (go_simp; try go_bits)
  refine (twin_any b pb ⟨2, 1, [e511]⟩ 2 1 _ (hr6.ext hx69)).mono ?_; rintro e w10 ⟨rfl, hx10⟩; refine hK _ _ hx10 ?_; clear hK K
  dsimp only
  rw [t21]
  have hr10 := (hr6.ext hx69).ext hx10
  have hy10 := (hy6.trans hx69).trans hx10
  repeat (first | (refine E.plan_pure (by simp only [List.getElem?_toArray, List.getElem?_cons_succ, List.getElem?_cons_zero]; rfl) (by rfl) (fun K hK => ?_); (go_simp; try go_bits; try go_simp); refine hK _ ?_; clear hK K) | (refine E.plan_load (by simp only [List.getElem?_toArray, List.getElem?_cons_succ, List.getElem?_cons_zero]; rfl) (by rfl) (by rfl) (fun K hK => ?_); (go_simp; try go_bits; try go_simp); refine hK _ ?_; clear hK K) | (refine E.plan_skip (E.Ext.refl _) (by simp only [List.getElem?_toArray, List.getElem?_cons_succ, List.getElem?_cons_zero]; rfl) (by rfl) (fun K hK => ?_); (go_simp; try go_bits; try go_simp); refine hK _ ?_; clear hK K))
  refine E.plan_nil ?_
  go_wp2_with fail
  refine (new_no _).mono ?_
  rintro e w11 ⟨rfl, rfl⟩
  go_wp2_with fail
  refine (get_no b pb ⟨2, 1, [e511]⟩ 1 _ hr10 (Or.inr (by simp))).mono ?_
  rintro e w11 ⟨rfl, hx11⟩
  go_wp2_with fail
  refine (drop_yes b pb 2 1 e511 [] _ (hr10.ext (hx11.trans (E.Ext.alloc _ _))) (by decide)).mono ?_
  rintro e w12 ⟨A2, c2, rfl, hx12, ho12, hr12⟩
  have hs12 := own_sl' ho12
  dsimp only [Entry.val]
  go_wp2_with fail
  refine (drop_no b pb 2 _ _ (hr12.ext (E.Ext.alloc _ _))).mono ?_
  rintro e w13 ⟨rfl, hx13⟩
  have H8 := E.blk0 hx13 rfl
  have cH8 := fun o => (H8.alloc o).cell
  go_wp2_with fail
  refine E.wp_plan E.ext_pre 1000000 [(0, false), (1, true), (2, true), (3, true), (4, true), (5, true), (6, true), (7, true), (8, true), (9, true), (10, true), (11, true), (12, true), (13, true), (14, true), (15, false), (16, false), (17, true), (18, true), (19, true), (20, true), (21, true), (22, true)] (by kernel_rfl) (by kernel_rfl) ?_
  repeat (first | (refine E.plan_pure (by simp only [List.getElem?_toArray, List.getElem?_cons_succ, List.getElem?_cons_zero]; rfl) (by rfl) (fun K hK => ?_); (go_simp; try go_bits; try go_simp); refine hK _ ?_; clear hK K) | (refine E.plan_load (by simp only [List.getElem?_toArray, List.getElem?_cons_succ, List.getElem?_cons_zero]; rfl) (by rfl) (by rfl) (fun K hK => ?_); (go_simp; try go_bits; try go_simp); refine hK _ ?_; clear hK K) | (refine E.plan_skip (E.Ext.refl _) (by simp only [List.getElem?_toArray, List.getElem?_cons_succ, List.getElem?_cons_zero]; rfl) (by rfl) (fun K hK => ?_); (go_simp; try go_bits; try go_simp); refine hK _ ?_; clear hK K))
  refine E.plan_eff (by simp only [List.getElem?_toArray, List.getElem?_cons_succ, List.getElem?_cons_zero]; rfl) (by rfl) (fun K hK => ?_); (go_simp; try go_bits)
  refine (awake_any _).mono ?_; rintro e w14 ⟨rfl, hx14⟩; refine hK _ _ hx14 ?_; clear hK K
  have cH9 := (((H8.alloc _).drew).ext hx14).cell
  repeat (first | (refine E.plan_pure (by simp only [List.getElem?_toArray, List.getElem?_cons_succ, List.getElem?_cons_zero]; rfl) (by rfl) (fun K hK => ?_); (go_simp; try go_bits; try go_simp); refine hK _ ?_; clear hK K) | (refine E.plan_load (by simp only [List.getElem?_toArray, List.getElem?_cons_succ, List.getElem?_cons_zero]; rfl) (by rfl) (by rfl) (fun K hK => ?_); (go_simp; try go_bits; try go_simp); refine hK _ ?_; clear hK K) | (refine E.plan_skip (E.Ext.refl _) (by simp only [List.getElem?_toArray, List.getElem?_cons_succ, List.getElem?_cons_zero]; rfl) (by rfl) (fun K hK => ?_); (go_simp; try go_bits; try go_simp); refine hK _ ?_; clear hK K))
  refine E.plan_eff (by simp only [List.getElem?_toArray, List.getElem?_cons_succ, List.getElem?_cons_zero]; rfl) (by rfl) (fun K hK => ?_); (go_simp; try go_bits)
  refine (J.at_any 5 1 1 _).mono ?_; rintro e w15 ⟨rfl, hx15⟩; refine hK _ _ hx15 ?_; clear hK K
  repeat (first | (refine E.plan_pure (by simp only [List.getElem?_toArray, List.getElem?_cons_succ, List.getElem?_cons_zero]; rfl) (by rfl) (fun K hK => ?_); (go_simp; try go_bits; try go_simp); refine hK _ ?_; clear hK K) | (refine E.plan_load (by simp only [List.getElem?_toArray, List.getElem?_cons_succ, List.getElem?_cons_zero]; rfl) (by rfl) (by rfl) (fun K hK => ?_); (go_simp; try go_bits; try go_simp); refine hK _ ?_; clear hK K) | (refine E.plan_skip (E.Ext.refl _) (by simp only [List.getElem?_toArray, List.getElem?_cons_succ, List.getElem?_cons_zero]; rfl) (by rfl) (fun K hK => ?_); (go_simp; try go_bits; try go_simp); refine hK _ ?_; clear hK K))
  have hz15 := (((((E.Ext.alloc _ _).trans hx13).trans (E.Ext.alloc _ _)).trans (E.Ext.drew _)).trans hx14).trans hx15
  refine E.plan_eff (by simp only [List.getElem?_toArray, List.getElem?_cons_succ, List.getElem?_cons_zero]; rfl) (by rfl) (fun K hK => ?_); (go_simp; try go_bits)
  refine (sameEntry_any e511 (bare 5 1 1) A2 none c2 0 _ (hs12.ext hz15) (bare_sl _ _ _ _)).mono ?_; rintro e w16 ⟨rfl, hx16⟩; refine hK _ _ hx16 ?_; clear hK K
  rw [show decide (e511 = bare 5 1 1) = true by decide]
  repeat (first | (refine E.plan_pure (by simp only [List.getElem?_toArray, List.getElem?_cons_succ, List.getElem?_cons_zero]; rfl) (by rfl) (fun K hK => ?_); (go_simp; try go_bits; try go_simp); refine hK _ ?_; clear hK K) | (refine E.plan_load (by simp only [List.getElem?_toArray, List.getElem?_cons_succ, List.getElem?_cons_zero]; rfl) (by rfl) (by rfl) (fun K hK => ?_); (go_simp; try go_bits; try go_simp); refine hK _ ?_; clear hK K) | (refine E.plan_skip (E.Ext.refl _) (by simp only [List.getElem?_toArray, List.getElem?_cons_succ, List.getElem?_cons_zero]; rfl) (by rfl) (fun K hK => ?_); (go_simp; try go_bits; try go_simp); refine hK _ ?_; clear hK K))
  refine E.plan_nil ?_
  go_wp2_with fail
  go_ret
  have hS : ∀ k, k < w.heap.size → ¬ (k = b ∨ k = pb) := by intro k hk; omega
  refine ⟨rfl, ?_⟩
  have h1 := (E.Ext.thenS hx1 hx2 hS).trans hy10
  exact ((E.Ext.thenS ((h1.trans hx11).trans (E.Ext.alloc _ _)) hx12 hS).trans hz15).trans hx16
end Go.Proofs.Ytjomgaafnpbmhaa.R
