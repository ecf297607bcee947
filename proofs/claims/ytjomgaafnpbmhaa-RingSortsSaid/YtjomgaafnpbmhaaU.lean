/- RingSorts, walked: the law. -/
import Derived.Test.YtjomgaafnpbmhaaT
namespace Go.Proofs.Ytjomgaafnpbmhaa.U
open Go.RowKit
open Go.Proofs.Ytjomgaafnpbmhaa
open Go.Proofs.Ytjomgaafnpbmhaa.A Go.Proofs.Ytjomgaafnpbmhaa.K Go.Proofs.Ytjomgaafnpbmhaa.B Go.Proofs.Ytjomgaafnpbmhaa.C Go.Proofs.Ytjomgaafnpbmhaa.D Go.Proofs.Ytjomgaafnpbmhaa.F Go.Proofs.Ytjomgaafnpbmhaa.G Go.Proofs.Ytjomgaafnpbmhaa.H Go.Proofs.Ytjomgaafnpbmhaa.I Go.Proofs.Ytjomgaafnpbmhaa.J Go.Proofs.Ytjomgaafnpbmhaa.M Go.Proofs.Ytjomgaafnpbmhaa.O Go.Proofs.Ytjomgaafnpbmhaa.P Go.Proofs.Ytjomgaafnpbmhaa.Q Go.Proofs.Ytjomgaafnpbmhaa.R Go.Proofs.Ytjomgaafnpbmhaa.S Go.Proofs.Ytjomgaafnpbmhaa.T
set_option linter.unusedVariables false
set_option linter.unusedSimpArgs false

theorem up_keys {m : List Entry} (h : Sorted m) : Up (m.map Entry.key) := by
  intro i j x y hij hx hy
  rw [List.getElem?_map] at hx hy
  cases h1 : m[i]? with
  | none => rw [h1] at hx; cases hx
  | some a =>
    cases h2 : m[j]? with
    | none => rw [h2] at hy; cases hy
    | some b =>
      rw [h1] at hx
      rw [h2] at hy
      simp only [Option.map_some, Option.some.injEq] at hx hy
      subst hx hy
      exact h i j a b hij h1 h2

set_option maxRecDepth 8000 in
set_option maxHeartbeats 3200000 in
theorem sorts_walk (l : List Entry) (A : Option Addr) (c : Nat) (w : World) (hl : Ents w A c l) :
    Calls Try.prog 5 #[.slice A l.length c] w fun e w' => e = .returned (.bool true) ∧ E.Ext w w' := by
  have hcap := hl.cap
  have hmax := hl.max
  by_cases h40 : 40 < l.length
  · go_enter Try.func5, Try.ntmps5
    go_wp2_with (go_at_call 20; refine (known_any _).mono ?_; rintro e w1 ⟨rfl, hx1⟩)
    go_ret
    exact ⟨rfl, hx1⟩
  · have H40 := Lib.hid (show l.length ≤ 40 by omega)
    go_enter Try.func5, Try.ntmps5
    go_wp2_with (go_at_call 20; refine (known_any _).mono ?_; rintro e w1 ⟨rfl, hx1⟩)
    refine (new_any 40 _ (by decide) (by decide)).mono ?_
    rintro e w2 ⟨b, pb, rfl, hr2, hb, hpb, hx2⟩
    have hx02 := hx1.trans hx2
    have hbw : w.heap.size ≤ b := Nat.le_trans hx1.size hb
    have hpbw : w.heap.size ≤ pb := Nat.le_trans hx1.size hpb
    have hS : ∀ k, k < w.heap.size → ¬ (k = b ∨ k = pb) := by intro k hk; omega
    have HS := Lib.hid hS
    clear hS
    go_wp2_with fail
    go_loopw [6, 7] (fun many v wr => ∃ (k : Nat) (m : List Entry), v = .int .i64 k ∧ many = .int .i64 m.length ∧ k ≤ l.length ∧ E.Ext w wr ∧ Held l k m ∧ RingAt (fun _ => True) wr b pb ⟨40, 0, m⟩ ∧ ∀ y, y ∈ m → y.data.length ≤ 20) (fun _ v _ => l.length - (intOf v).toNat)
    case atStart => exact ⟨0, [], rfl, rfl, Nat.zero_le _, hx02, held_nil l, hr2, fun y h => by cases h⟩
    case round =>
      obtain ⟨k, m, rfl, rfl, hk, hx, hhm, hr, hd⟩ := hrel
      have HD := Lib.hid hd
      have HHM := Lib.hid hhm
      have hm40 := held_len hhm
      clear hd hhm
      by_cases hlt : k < l.length
      · obtain ⟨y, hy⟩ : ∃ y, l[k]? = some y := ⟨l[k], List.getElem?_eq_getElem hlt⟩
        have HY := Lib.hid hy
        clear hy
        have hlx := hl.ext hx
        have HL := Lib.hid hlx
        clear hlx
        obtain ⟨b0, o0, rfl, hb0, hen⟩ := HL.out.at_ (by omega)
        have HEN := Lib.hid hen
        clear hen
        obtain ⟨c0, c1, c2, c3, Ad, cd, c4, hsd⟩ := HEN.out k y HY.out
        by_cases h20 : 20 < y.data.length
        · go_wp2_with fail
          go_ret
          exact ⟨rfl, hx⟩
        · go_wp2_with fail
          clear c0 c1 c2 c3 c4 hsd
          go_loopw [8, 9] (fun g v wi => ∃ (j G : Nat), v = .int .i64 j ∧ g = .int .i64 G ∧ G = (fl l j).countP (gt y.key) ∧ G ≤ j ∧ j ≤ k ∧ E.Ext wr wi) (fun _ v _ => k - (intOf v).toNat)
          case atStart => exact ⟨0, 0, rfl, rfl, rfl, Nat.zero_le _, Nat.zero_le _, E.Ext.refl _⟩
          case round =>
            obtain ⟨j, G, rfl, rfl, hG, hGj, hj, hxi⟩ := hrel
            have HG := Lib.hid hG
            clear hG
            by_cases hjk : j < k
            · obtain ⟨z, hz⟩ : ∃ z, l[j]? = some z := ⟨l[j], List.getElem?_eq_getElem (by omega)⟩
              have HZ := Lib.hid hz
              clear hz
              have hjl : j < l.length := by omega
              by_cases hf : Fresh l j
              · have HF := Lib.hid hf
                clear hf
                go_wp2_with fail
                refine E.wp_plan E.ext_pre 1000000 [(0, true), (1, true), (2, false), (3, true), (4, true), (5, true), (6, true), (7, true), (9, true), (10, true), (11, true), (12, true), (8, false), (13, false), (14, false), (15, true)] (by kernel_rfl) (by kernel_rfl) ?_
                repeat (first | (refine E.plan_pure (by simp only [List.getElem?_toArray, List.getElem?_cons_succ, List.getElem?_cons_zero]; rfl) (by rfl) (fun K hK => ?_); (go_simp; try go_bits; try go_simp); refine hK _ ?_; clear hK K) | (refine E.plan_load (by simp only [List.getElem?_toArray, List.getElem?_cons_succ, List.getElem?_cons_zero]; rfl) (by rfl) (by rfl) (fun K hK => ?_); (go_simp; try go_bits; try go_simp); refine hK _ ?_; clear hK K) | (refine E.plan_skip (E.Ext.refl _) (by simp only [List.getElem?_toArray, List.getElem?_cons_succ, List.getElem?_cons_zero]; rfl) (by rfl) (fun K hK => ?_); (go_simp; try go_bits; try go_simp); refine hK _ ?_; clear hK K))
                refine E.plan_eff (by simp only [List.getElem?_toArray, List.getElem?_cons_succ, List.getElem?_cons_zero]; rfl) (by rfl) (fun K hK => ?_); (go_simp; try go_bits)
                refine (fresh_yes l _ c j z _ (HL.out.ext (hxi.trans (E.Ext.drew _))) HZ.out (by omega) HF.out).mono ?_; rintro e w3 ⟨rfl, hx3⟩; refine hK _ _ hx3 ?_; clear hK K
                have hx03 := (hxi.trans (E.Ext.drew _)).trans hx3
                obtain ⟨c0, c1, c2, c3, Ad, cd, c4, hsd⟩ := (HEN.out k y HY.out).ext hx03 hb0
                obtain ⟨d0, d1, d2, d3, Ad', cd', d4, hsd'⟩ := (HEN.out j z HZ.out).ext hx03 hb0
                repeat (first | (refine E.plan_pure (by simp only [List.getElem?_toArray, List.getElem?_cons_succ, List.getElem?_cons_zero]; rfl) (by rfl) (fun K hK => ?_); (go_simp; try go_bits; try go_simp); refine hK _ ?_; clear hK K) | (refine E.plan_load (by simp only [List.getElem?_toArray, List.getElem?_cons_succ, List.getElem?_cons_zero]; rfl) (by rfl) (by rfl) (fun K hK => ?_); (go_simp; try go_bits; try go_simp); refine hK _ ?_; clear hK K) | (refine E.plan_skip (E.Ext.refl _) (by simp only [List.getElem?_toArray, List.getElem?_cons_succ, List.getElem?_cons_zero]; rfl) (by rfl) (fun K hK => ?_); (go_simp; try go_bits; try go_simp); refine hK _ ?_; clear hK K))
                refine E.plan_eff (by simp only [List.getElem?_toArray, List.getElem?_cons_succ, List.getElem?_cons_zero]; rfl) (by rfl) (fun K hK => ?_); (go_simp; try go_bits)
                refine (of_any y Ad cd _).mono ?_; rintro e w4 ⟨rfl, hx4⟩; refine hK _ _ hx4 ?_; clear hK K
                dsimp only [Key.val, Entry.key]
                repeat (first | (refine E.plan_pure (by simp only [List.getElem?_toArray, List.getElem?_cons_succ, List.getElem?_cons_zero]; rfl) (by rfl) (fun K hK => ?_); (go_simp; try go_bits; try go_simp); refine hK _ ?_; clear hK K) | (refine E.plan_load (by simp only [List.getElem?_toArray, List.getElem?_cons_succ, List.getElem?_cons_zero]; rfl) (by rfl) (by rfl) (fun K hK => ?_); (go_simp; try go_bits; try go_simp); refine hK _ ?_; clear hK K) | (refine E.plan_skip (E.Ext.refl _) (by simp only [List.getElem?_toArray, List.getElem?_cons_succ, List.getElem?_cons_zero]; rfl) (by rfl) (fun K hK => ?_); (go_simp; try go_bits; try go_simp); refine hK _ ?_; clear hK K))
                refine E.plan_eff (by simp only [List.getElem?_toArray, List.getElem?_cons_succ, List.getElem?_cons_zero]; rfl) (by rfl) (fun K hK => ?_); (go_simp; try go_bits)
                refine (of_any z Ad' cd' _).mono ?_; rintro e w5 ⟨rfl, hx5⟩; refine hK _ _ hx5 ?_; clear hK K
                dsimp only [Key.val, Entry.key]
                repeat (first | (refine E.plan_pure (by simp only [List.getElem?_toArray, List.getElem?_cons_succ, List.getElem?_cons_zero]; rfl) (by rfl) (fun K hK => ?_); (go_simp; try go_bits; try go_simp); refine hK _ ?_; clear hK K) | (refine E.plan_load (by simp only [List.getElem?_toArray, List.getElem?_cons_succ, List.getElem?_cons_zero]; rfl) (by rfl) (by rfl) (fun K hK => ?_); (go_simp; try go_bits; try go_simp); refine hK _ ?_; clear hK K) | (refine E.plan_skip (E.Ext.refl _) (by simp only [List.getElem?_toArray, List.getElem?_cons_succ, List.getElem?_cons_zero]; rfl) (by rfl) (fun K hK => ?_); (go_simp; try go_bits; try go_simp); refine hK _ ?_; clear hK K))
                refine E.plan_eff (by simp only [List.getElem?_toArray, List.getElem?_cons_succ, List.getElem?_cons_zero]; rfl) (by rfl) (fun K hK => ?_); (go_simp; try go_bits)
                refine (less_any y.key z.key _).mono ?_; rintro e w6 ⟨rfl, hx6⟩; refine hK _ _ hx6 ?_; clear hK K
                have hx06 := ((hx03.trans hx4).trans hx5).trans hx6
                have hcnt := count_yes (q := gt y.key) HZ.out HF.out
                have hgt : gt y.key z = y.key.lt z.key := rfl
                rw [hgt] at hcnt
                clear hgt
                cases hb1 : y.key.lt z.key with
                | true =>
                  rw [hb1] at hcnt
                  have HC := Lib.hid hcnt
                  clear hcnt
                  repeat (first | (refine E.plan_pure (by simp only [List.getElem?_toArray, List.getElem?_cons_succ, List.getElem?_cons_zero]; rfl) (by rfl) (fun K hK => ?_); (go_simp; try go_bits; try go_simp); refine hK _ ?_; clear hK K) | (refine E.plan_load (by simp only [List.getElem?_toArray, List.getElem?_cons_succ, List.getElem?_cons_zero]; rfl) (by rfl) (by rfl) (fun K hK => ?_); (go_simp; try go_bits; try go_simp); refine hK _ ?_; clear hK K) | (refine E.plan_skip (E.Ext.refl _) (by simp only [List.getElem?_toArray, List.getElem?_cons_succ, List.getElem?_cons_zero]; rfl) (by rfl) (fun K hK => ?_); (go_simp; try go_bits; try go_simp); refine hK _ ?_; clear hK K))
                  refine E.plan_nil ?_
                  go_wp2_with fail
                  go_roundw
                  case rel => exact ⟨j + 1, G + 1, by go_num, by go_num, by rw [HC.out, HG.out]; rfl, by omega, by omega, hx06⟩
                  case measure => simp [intOf]; omega
                | false =>
                  rw [hb1] at hcnt
                  have HC := Lib.hid hcnt
                  clear hcnt
                  repeat (first | (refine E.plan_pure (by simp only [List.getElem?_toArray, List.getElem?_cons_succ, List.getElem?_cons_zero]; rfl) (by rfl) (fun K hK => ?_); (go_simp; try go_bits; try go_simp); refine hK _ ?_; clear hK K) | (refine E.plan_load (by simp only [List.getElem?_toArray, List.getElem?_cons_succ, List.getElem?_cons_zero]; rfl) (by rfl) (by rfl) (fun K hK => ?_); (go_simp; try go_bits; try go_simp); refine hK _ ?_; clear hK K) | (refine E.plan_skip (E.Ext.refl _) (by simp only [List.getElem?_toArray, List.getElem?_cons_succ, List.getElem?_cons_zero]; rfl) (by rfl) (fun K hK => ?_); (go_simp; try go_bits; try go_simp); refine hK _ ?_; clear hK K))
                  refine E.plan_nil ?_
                  go_wp2_with fail
                  go_roundw
                  case rel => exact ⟨j + 1, G, by go_num, rfl, by rw [HC.out, HG.out]; rfl, by omega, by omega, hx06⟩
                  case measure => simp [intOf]; omega
              · have HF := Lib.hid hf
                clear hf
                have HC := Lib.hid (count_no (q := gt y.key) HZ.out HF.out)
                go_wp2_with fail
                refine E.wp_plan E.ext_pre 1000000 [(0, true), (1, true), (2, false), (3, true), (4, true), (5, true), (6, true), (7, true), (9, true), (10, true), (11, true), (12, true), (8, false), (13, false), (14, false), (15, true)] (by kernel_rfl) (by kernel_rfl) ?_
                repeat (first | (refine E.plan_pure (by simp only [List.getElem?_toArray, List.getElem?_cons_succ, List.getElem?_cons_zero]; rfl) (by rfl) (fun K hK => ?_); (go_simp; try go_bits; try go_simp); refine hK _ ?_; clear hK K) | (refine E.plan_load (by simp only [List.getElem?_toArray, List.getElem?_cons_succ, List.getElem?_cons_zero]; rfl) (by rfl) (by rfl) (fun K hK => ?_); (go_simp; try go_bits; try go_simp); refine hK _ ?_; clear hK K) | (refine E.plan_skip (E.Ext.refl _) (by simp only [List.getElem?_toArray, List.getElem?_cons_succ, List.getElem?_cons_zero]; rfl) (by rfl) (fun K hK => ?_); (go_simp; try go_bits; try go_simp); refine hK _ ?_; clear hK K))
                refine E.plan_eff (by simp only [List.getElem?_toArray, List.getElem?_cons_succ, List.getElem?_cons_zero]; rfl) (by rfl) (fun K hK => ?_); (go_simp; try go_bits)
                refine (fresh_no l _ c j z _ (HL.out.ext (hxi.trans (E.Ext.drew _))) HZ.out (by omega) HF.out).mono ?_; rintro e w3 ⟨rfl, hx3⟩; refine hK _ _ hx3 ?_; clear hK K
                have hx03 := (hxi.trans (E.Ext.drew _)).trans hx3
                repeat (first | (refine E.plan_pure (by simp only [List.getElem?_toArray, List.getElem?_cons_succ, List.getElem?_cons_zero]; rfl) (by rfl) (fun K hK => ?_); (go_simp; try go_bits; try go_simp); refine hK _ ?_; clear hK K) | (refine E.plan_load (by simp only [List.getElem?_toArray, List.getElem?_cons_succ, List.getElem?_cons_zero]; rfl) (by rfl) (by rfl) (fun K hK => ?_); (go_simp; try go_bits; try go_simp); refine hK _ ?_; clear hK K) | (refine E.plan_skip (E.Ext.refl _) (by simp only [List.getElem?_toArray, List.getElem?_cons_succ, List.getElem?_cons_zero]; rfl) (by rfl) (fun K hK => ?_); (go_simp; try go_bits; try go_simp); refine hK _ ?_; clear hK K))
                refine E.plan_nil ?_
                go_wp2_with fail
                go_roundw
                case rel => exact ⟨j + 1, G, by go_num, rfl, by rw [HC.out, HG.out], by omega, by omega, hx03⟩
                case measure => simp [intOf]; omega
            · obtain rfl : j = k := by omega
              clear hjk
              have hrr := hr.ext hxi
              obtain ⟨c0, c1, c2, c3, Ad, cd, c4, hsd⟩ := (HEN.out j y HY.out).ext hxi hb0
              by_cases hf : Fresh l j
              · obtain ⟨hins, hh2, hle⟩ := ins_yes HHM.out HY.out hf (by have := H40.out; omega)
                have HF := Lib.hid hf
                have HI := Lib.hid hins
                have HH := Lib.hid hh2
                clear hf hins hh2
                have hsorted := HHM.out.sorted
                have HSO := Lib.hid hsorted
                clear hsorted
                have hlen2 : (m.take (pos m y.key) ++ y :: m.drop (pos m y.key)).length = m.length + 1 := by
                  rw [HH.out.perm.length_eq, fl_yes HY.out HF.out, List.length_append, ← HHM.out.perm.length_eq]
                  rfl
                have HLEN := Lib.hid hlen2
                clear hlen2
                generalize m.take (pos m y.key) ++ y :: m.drop (pos m y.key) = m' at *
                rw [← HG.out] at hle HI
                have hp : ((m.length : Int) - (G : Int)) = ((m.length - G : Nat) : Int) := by omega
                have HP := Lib.hid hp
                generalize m.length - G = p at *
                go_wp2_with fail
                refine (insert_any b pb ⟨40, 0, m⟩ y Ad cd _ hrr HSO.out hsd (by omega)).mono ?_
                rintro e w3 ⟨rfl, hr3, hx3, _⟩
                replace hr3 := hr3.mono (F' := fun _ => True) (fun _ _ _ => trivial)
                rw [HI.out] at hr3 ⊢
                have hx03 := E.Ext.thenS (hx.trans hxi) hx3 HS.out
                go_wp2_with fail
                refine (fresh_yes l _ c j y _ (hl.ext hx03) HY.out (by omega) HF.out).mono ?_
                rintro e w4 ⟨rfl, hx4⟩
                go_wp2_with fail
                go_roundw
                case rel => exact ⟨j + 1, m', by go_num, by rw [HLEN.out]; go_num, by omega, hx03.trans hx4, HH.out, hr3.ext hx4, fun z hz => by
                  have h3 := insert_mem (K := 40) (l := m) (x := y) (y := z) (by rw [HI.out]; exact hz)
                  rcases h3 with h3 | h3
                  · exact HD.out z h3
                  · subst h3; omega⟩
                case measure => simp [intOf]; omega
              · obtain ⟨hins, hh2⟩ := ins_no HHM.out HY.out hf
                have HF := Lib.hid hf
                have HI := Lib.hid hins
                have HH := Lib.hid hh2
                clear hf hins hh2
                have hsorted := HHM.out.sorted
                have HSO := Lib.hid hsorted
                clear hsorted
                go_wp2_with fail
                refine (insert_any b pb ⟨40, 0, m⟩ y Ad cd _ hrr HSO.out hsd (by omega)).mono ?_
                rintro e w3 ⟨rfl, hr3, hx3, _⟩
                replace hr3 := hr3.mono (F' := fun _ => True) (fun _ _ _ => trivial)
                rw [HI.out] at hr3 ⊢
                have hx03 := E.Ext.thenS (hx.trans hxi) hx3 HS.out
                go_wp2_with fail
                refine (fresh_no l _ c j y _ (hl.ext hx03) HY.out (by omega) HF.out).mono ?_
                rintro e w4 ⟨rfl, hx4⟩
                go_wp2_with fail
                go_roundw
                case rel => exact ⟨j + 1, m, by go_num, rfl, by omega, hx03.trans hx4, HH.out, hr3.ext hx4, HD.out⟩
                case measure => simp [intOf]; omega
      · obtain rfl : k = l.length := by omega
        clear hlt
        have HSO := Lib.hid HHM.out.sorted
        have hmem : ∀ y, y ∈ m → y ∈ fl l l.length := fun y h => HHM.out.perm.mem_iff.1 h
        have HM := Lib.hid hmem
        clear hmem
        have hkl : (m.map Entry.key).length ≤ 1099511627776 := by simp; omega
        go_wp2_with fail
        refine (keys_any b pb _ _ hr).mono ?_
        rintro e w3 ⟨Ak, ck, rfl, hx3, ho⟩
        have hsl := own_sl' ho
        have HSL := Lib.hid hsl
        clear hsl ho
        go_wp2_with fail
        have hri := rising_yes _ Ak ck _ HSL.out hkl (up_keys HSO.out)
        simp only [List.length_map] at hri
        refine hri.mono ?_
        rintro e w4 ⟨rfl, hx4⟩
        have hr4 := (hr.ext hx3).ext hx4
        go_wp2_with fail
        refine (len_any b pb _ _ hr4).mono ?_
        rintro e w5 ⟨rfl, rfl⟩
        go_wp2_with fail
        have hx04 := (hx.trans hx3).trans hx4
        have hat := Lib.hid (show ∃ (first : Nat) (m2 : List Entry), RingAt (fun _ => True) w4 b pb ⟨40, first, m2⟩ ∧ m2.length = m.length ∧ Sorted m2 ∧ (∀ y, y ∈ m2 → y ∈ fl l l.length) ∧ (∀ y, y ∈ m2 → y.data.length ≤ 20) from ⟨0, m, hr4, rfl, HSO.out, HM.out, HD.out⟩)
        clear HSL hkl hri hr hr4 HHM
        go_loopw [13] (fun v wr => ∃ (first : Nat) (m2 : List Entry), v = .int .i64 m2.length ∧ E.Ext w wr ∧ RingAt (fun _ => True) wr b pb ⟨40, first, m2⟩ ∧ Sorted m2 ∧ (∀ y, y ∈ m2 → y ∈ fl l l.length) ∧ (∀ y, y ∈ m2 → y.data.length ≤ 20)) (fun v _ => (intOf v).toNat)
        case atStart =>
          obtain ⟨first, m2, h1, h2, h3, h4, h5⟩ := hat.out
          exact ⟨first, m2, by rw [h2], hx04, h1, h3, h4, h5⟩
        case round =>
          clear hat HSO HM HD
          obtain ⟨first, m2, rfl, hxr, hr, hso, hmem, hd⟩ := hrel
          have HSO := Lib.hid hso
          have HM := Lib.hid hmem
          have HD := Lib.hid hd
          clear hso hmem hd
          cases m2 with
          | nil =>
            go_wp2_with fail
            go_ret
            exact ⟨rfl, hxr⟩
          | cons x m3 =>
            have hm40 := hr.ok.many
            simp only [List.length_cons] at hm40
            obtain ⟨jx, hjx, hjx2, hjx3⟩ := fl_mem (HM.out x (by simp))
            have HJ := Lib.hid (And.intro hjx (And.intro hjx2 hjx3))
            clear hjx hjx2 hjx3
            go_wp2_with fail
            refine (drop_yes b pb 40 first x m3 _ hr (by have := HD.out x (by simp); omega)).mono ?_
            rintro e w5 ⟨A5, c5, rfl, hx5, ho5, hr5⟩
            have hs5 := own_sl' ho5
            have HS5 := Lib.hid hs5
            clear hs5 ho5
            have hx05 := E.Ext.thenS hxr hx5 HS.out
            dsimp only [Entry.val]
            go_wp2_with fail
            refine (keys_any b pb _ _ (hr5.ext (E.Ext.alloc _ _))).mono ?_
            rintro e w6 ⟨Ak, ck, rfl, hx6, ho6⟩
            have hs6 := own_sl' ho6
            have HS6 := Lib.hid hs6
            clear hs6 ho6
            have H14 := E.blk0 hx6 rfl
            have hx56 := (E.Ext.alloc w5 _).trans hx6
            have hx06 := hx05.trans hx56
            have hr6 := hr5.ext hx56
            go_wp2_with fail
            have H14' := Lib.hid H14
            clear H14
            go_loopw [16, 18] (fun f v wi => ∃ (j : Nat) (fb : Bool), v = .int .i64 j ∧ f = .bool fb ∧ j ≤ l.length ∧ E.Ext w6 wi ∧ (fb = true ↔ ∃ i, i < j ∧ l[i]? = some x ∧ Fresh l i)) (fun _ v _ => l.length - (intOf v).toNat)
            case atStart => exact ⟨0, false, rfl, rfl, Nat.zero_le _, E.Ext.refl _, by simp⟩
            case round =>
              obtain ⟨j, fb, rfl, rfl, hj, hxi, hfb⟩ := hrel
              have HFB := Lib.hid hfb
              clear hfb
              have hx0i := hx06.trans hxi
              by_cases hjl : j < l.length
              · cases fb with
                | true =>
                  go_wp2_with fail
                  refine E.wp_plan E.ext_pre 1000000 [(0, true), (1, true), (2, true), (3, true), (4, false), (5, true), (6, true), (7, true), (8, true), (9, true), (10, true), (11, false), (12, true), (13, true), (14, true)] (by kernel_rfl) (by kernel_rfl) ?_
                  repeat (first | (refine E.plan_pure (by simp only [List.getElem?_toArray, List.getElem?_cons_succ, List.getElem?_cons_zero]; rfl) (by rfl) (fun K hK => ?_); (go_simp; try go_bits; try go_simp); refine hK _ ?_; clear hK K) | (refine E.plan_load (by simp only [List.getElem?_toArray, List.getElem?_cons_succ, List.getElem?_cons_zero]; rfl) (by rfl) (by rfl) (fun K hK => ?_); (go_simp; try go_bits; try go_simp); refine hK _ ?_; clear hK K) | (refine E.plan_skip (E.Ext.refl _) (by simp only [List.getElem?_toArray, List.getElem?_cons_succ, List.getElem?_cons_zero]; rfl) (by rfl) (fun K hK => ?_); (go_simp; try go_bits; try go_simp); refine hK _ ?_; clear hK K))
                  refine E.plan_nil ?_
                  go_wp2_with fail
                  go_roundw
                  case rel => exact ⟨j + 1, true, by go_num, rfl, by omega, hxi.trans (E.Ext.drew _), by
                    obtain ⟨i, h1, h2⟩ := HFB.out.1 (by simp)
                    simp only [true_iff]
                    exact ⟨i, by omega, h2⟩⟩
                  case measure => simp [intOf]; omega
                | false =>
                  obtain ⟨z, hz⟩ : ∃ z, l[j]? = some z := ⟨l[j], List.getElem?_eq_getElem (by omega)⟩
                  have HZ := Lib.hid hz
                  clear hz
                  have hstep : ∀ r : Bool, (r = true ↔ z = x ∧ Fresh l j) → (r = true ↔ ∃ i, i < j + 1 ∧ l[i]? = some x ∧ Fresh l i) := by
                    intro r hr'
                    rw [hr']
                    constructor
                    · rintro ⟨rfl, h2⟩
                      exact ⟨j, by omega, HZ.out, h2⟩
                    · rintro ⟨i, h1, h2, h3⟩
                      by_cases hij : i = j
                      · subst hij
                        rw [HZ.out] at h2
                        cases h2
                        exact ⟨rfl, h3⟩
                      · exact absurd (HFB.out.2 ⟨i, by omega, h2, h3⟩) (by simp)
                  have HST := Lib.hid hstep
                  clear hstep
                  by_cases hf : Fresh l j
                  · have HF := Lib.hid hf
                    clear hf
                    have hli := hl.ext hx0i
                    obtain ⟨b0, o0, rfl, hb0, hen⟩ := hli.at_ (by omega)
                    have HEN := Lib.hid hen
                    have HLI := Lib.hid hli
                    clear hen hli
                    go_wp2_with fail
                    refine E.wp_plan E.ext_pre 1000000 [(0, true), (1, true), (2, true), (3, true), (4, false), (5, true), (6, true), (7, true), (8, true), (9, true), (10, true), (11, false), (12, true), (13, true), (14, true)] (by kernel_rfl) (by kernel_rfl) ?_
                    repeat (first | (refine E.plan_pure (by simp only [List.getElem?_toArray, List.getElem?_cons_succ, List.getElem?_cons_zero]; rfl) (by rfl) (fun K hK => ?_); (go_simp; try go_bits; try go_simp); refine hK _ ?_; clear hK K) | (refine E.plan_load (by simp only [List.getElem?_toArray, List.getElem?_cons_succ, List.getElem?_cons_zero]; rfl) (by rfl) (by rfl) (fun K hK => ?_); (go_simp; try go_bits; try go_simp); refine hK _ ?_; clear hK K) | (refine E.plan_skip (E.Ext.refl _) (by simp only [List.getElem?_toArray, List.getElem?_cons_succ, List.getElem?_cons_zero]; rfl) (by rfl) (fun K hK => ?_); (go_simp; try go_bits; try go_simp); refine hK _ ?_; clear hK K))
                    refine E.plan_eff (by simp only [List.getElem?_toArray, List.getElem?_cons_succ, List.getElem?_cons_zero]; rfl) (by rfl) (fun K hK => ?_); (go_simp; try go_bits)
                    refine (fresh_yes l _ c j z _ (HLI.out.ext (E.Ext.drew _)) HZ.out (by omega) HF.out).mono ?_; rintro e w7 ⟨rfl, hx7⟩; refine hK _ _ hx7 ?_; clear hK K
                    have hx07 := (E.Ext.drew wr).trans hx7
                    obtain ⟨d0, d1, d2, d3, Ad, cd, d4, hsd⟩ := (HEN.out j z HZ.out).ext hx07 hb0
                    have hxi7 := hxi.trans hx07
                    have c14 := (H14'.out.ext hxi7).cell
                    have hs7 := HS5.out.ext (hx56.trans hxi7)
                    repeat (first | (refine E.plan_pure (by simp only [List.getElem?_toArray, List.getElem?_cons_succ, List.getElem?_cons_zero]; rfl) (by rfl) (fun K hK => ?_); (go_simp; try go_bits; try go_simp); refine hK _ ?_; clear hK K) | (refine E.plan_load (by simp only [List.getElem?_toArray, List.getElem?_cons_succ, List.getElem?_cons_zero]; rfl) (by rfl) (by rfl) (fun K hK => ?_); (go_simp; try go_bits; try go_simp); refine hK _ ?_; clear hK K) | (refine E.plan_skip (E.Ext.refl _) (by simp only [List.getElem?_toArray, List.getElem?_cons_succ, List.getElem?_cons_zero]; rfl) (by rfl) (fun K hK => ?_); (go_simp; try go_bits; try go_simp); refine hK _ ?_; clear hK K))
                    refine E.plan_eff (by simp only [List.getElem?_toArray, List.getElem?_cons_succ, List.getElem?_cons_zero]; rfl) (by rfl) (fun K hK => ?_); (go_simp; try go_bits)
                    refine (sameEntry_any z x Ad A5 cd c5 _ hsd hs7).mono ?_; rintro e w8 ⟨rfl, hx8⟩; refine hK _ _ hx8 ?_; clear hK K
                    repeat (first | (refine E.plan_pure (by simp only [List.getElem?_toArray, List.getElem?_cons_succ, List.getElem?_cons_zero]; rfl) (by rfl) (fun K hK => ?_); (go_simp; try go_bits; try go_simp); refine hK _ ?_; clear hK K) | (refine E.plan_load (by simp only [List.getElem?_toArray, List.getElem?_cons_succ, List.getElem?_cons_zero]; rfl) (by rfl) (by rfl) (fun K hK => ?_); (go_simp; try go_bits; try go_simp); refine hK _ ?_; clear hK K) | (refine E.plan_skip (E.Ext.refl _) (by simp only [List.getElem?_toArray, List.getElem?_cons_succ, List.getElem?_cons_zero]; rfl) (by rfl) (fun K hK => ?_); (go_simp; try go_bits; try go_simp); refine hK _ ?_; clear hK K))
                    refine E.plan_nil ?_
                    go_wp2_with fail
                    go_roundw
                    case rel => exact ⟨j + 1, _, by go_num, rfl, by omega, hxi7.trans hx8, HST.out _ (by
                      have := HF.out
                      simp [this])⟩
                    case measure => simp [intOf]; omega
                  · have HF := Lib.hid hf
                    clear hf
                    go_wp2_with fail
                    refine E.wp_plan E.ext_pre 1000000 [(0, true), (1, true), (2, true), (3, true), (4, false), (5, true), (6, true), (7, true), (8, true), (9, true), (10, true), (11, false), (12, true), (13, true), (14, true)] (by kernel_rfl) (by kernel_rfl) ?_
                    repeat (first | (refine E.plan_pure (by simp only [List.getElem?_toArray, List.getElem?_cons_succ, List.getElem?_cons_zero]; rfl) (by rfl) (fun K hK => ?_); (go_simp; try go_bits; try go_simp); refine hK _ ?_; clear hK K) | (refine E.plan_load (by simp only [List.getElem?_toArray, List.getElem?_cons_succ, List.getElem?_cons_zero]; rfl) (by rfl) (by rfl) (fun K hK => ?_); (go_simp; try go_bits; try go_simp); refine hK _ ?_; clear hK K) | (refine E.plan_skip (E.Ext.refl _) (by simp only [List.getElem?_toArray, List.getElem?_cons_succ, List.getElem?_cons_zero]; rfl) (by rfl) (fun K hK => ?_); (go_simp; try go_bits; try go_simp); refine hK _ ?_; clear hK K))
                    refine E.plan_eff (by simp only [List.getElem?_toArray, List.getElem?_cons_succ, List.getElem?_cons_zero]; rfl) (by rfl) (fun K hK => ?_); (go_simp; try go_bits)
                    refine (fresh_no l _ c j z _ (hl.ext (hx0i.trans (E.Ext.drew _))) HZ.out (by omega) HF.out).mono ?_; rintro e w7 ⟨rfl, hx7⟩; refine hK _ _ hx7 ?_; clear hK K
                    repeat (first | (refine E.plan_pure (by simp only [List.getElem?_toArray, List.getElem?_cons_succ, List.getElem?_cons_zero]; rfl) (by rfl) (fun K hK => ?_); (go_simp; try go_bits; try go_simp); refine hK _ ?_; clear hK K) | (refine E.plan_load (by simp only [List.getElem?_toArray, List.getElem?_cons_succ, List.getElem?_cons_zero]; rfl) (by rfl) (by rfl) (fun K hK => ?_); (go_simp; try go_bits; try go_simp); refine hK _ ?_; clear hK K) | (refine E.plan_skip (E.Ext.refl _) (by simp only [List.getElem?_toArray, List.getElem?_cons_succ, List.getElem?_cons_zero]; rfl) (by rfl) (fun K hK => ?_); (go_simp; try go_bits; try go_simp); refine hK _ ?_; clear hK K))
                    refine E.plan_nil ?_
                    go_wp2_with fail
                    go_roundw
                    case rel => exact ⟨j + 1, false, by go_num, rfl, by omega, (hxi.trans (E.Ext.drew _)).trans hx7, HST.out _ (by
                      have := HF.out
                      simp [this])⟩
                    case measure => simp [intOf]; omega
              · obtain rfl : j = l.length := by omega
                clear hjl
                obtain rfl : fb = true := HFB.out.2 ⟨jx, HJ.out⟩
                have hri := hr6.ext hxi
                have c14 := (H14'.out.ext hxi).cell
                have hm : ((m3.length : Int) + 1 - 1) = (m3.length : Int) := by omega
                by_cases hm0 : m3.length = 0
                · obtain rfl : m3 = [] := List.eq_nil_of_length_eq_zero hm0
                  go_wp2_with fail
                  refine E.wp_plan E.ext_pre 1000000 [(0, true), (1, true), (2, true), (3, true), (4, true), (5, true), (6, true), (7, true), (8, true), (9, true), (10, true), (11, true), (12, true), (13, true), (14, true), (15, true), (16, true), (17, true), (18, true), (20, true), (21, true), (22, true), (19, false), (23, false), (24, true), (25, true), (26, true)] (by kernel_rfl) (by kernel_rfl) ?_
                  repeat (first | (refine E.plan_pure (by simp only [List.getElem?_toArray, List.getElem?_cons_succ, List.getElem?_cons_zero]; rfl) (by rfl) (fun K hK => ?_); (go_simp; try go_bits; try go_simp); refine hK _ ?_; clear hK K) | (refine E.plan_load (by simp only [List.getElem?_toArray, List.getElem?_cons_succ, List.getElem?_cons_zero]; rfl) (by rfl) (by rfl) (fun K hK => ?_); (go_simp; try go_bits; try go_simp); refine hK _ ?_; clear hK K) | (refine E.plan_skip (E.Ext.refl _) (by simp only [List.getElem?_toArray, List.getElem?_cons_succ, List.getElem?_cons_zero]; rfl) (by rfl) (fun K hK => ?_); (go_simp; try go_bits; try go_simp); refine hK _ ?_; clear hK K))
                  refine E.plan_nil ?_
                  go_wp2_with fail
                  go_roundw
                  case rel => exact ⟨_, [], by go_num, hx0i.trans (E.Ext.drew _), hri.ext (E.Ext.drew _), sorted_nil, fun y h => by simp at h, fun y h => by simp at h⟩
                  case measure => simp [intOf]
                · have hpos : 0 < m3.length := by omega
                  obtain ⟨y, hy⟩ : ∃ y, m3[0]? = some y := ⟨m3[0], List.getElem?_eq_getElem hpos⟩
                  have hso3 : Sorted m3 := fun i j a b' hij h1 h2 => HSO.out (i + 1) (j + 1) a b' (by omega) (by simpa using h1) (by simpa using h2)
                  have HSO3 := Lib.hid hso3
                  have hless := HSO.out 0 1 x y (by omega) rfl (by simpa using hy)
                  clear hso3
                  have hs6 := HS6.out.ext hxi
                  obtain ⟨bk, ok, hAk, k0, k1, k2⟩ := key_at hs6 (k := 0) (by simpa using hpos)
                  subst hAk
                  have hkey : (m3.map Entry.key)[0]'(by simpa using hpos) = y.key := by
                    rw [List.getElem_map]
                    congr 1
                    exact Option.some.inj ((List.getElem?_eq_getElem hpos).symm.trans hy)
                  rw [show ((({ K := 40, first := (first + 1) % 40, l := m3 } : RingD).l.map Entry.key)[0]'(by simpa using hpos)) = y.key from hkey] at k0 k1 k2
                  simp only [Nat.zero_mul, Nat.add_zero, Entry.key] at k0 k1 k2
                  clear hs6 hy hkey hm0
                  go_wp2_with fail
                  refine E.wp_plan E.ext_pre 1000000 [(0, true), (1, true), (2, true), (3, true), (4, true), (5, true), (6, true), (7, true), (8, true), (9, true), (10, true), (11, true), (12, true), (13, true), (14, true), (15, true), (16, true), (17, true), (18, true), (20, true), (21, true), (22, true), (19, false), (23, false), (24, true), (25, true), (26, true)] (by kernel_rfl) (by kernel_rfl) ?_
                  repeat (first | (refine E.plan_pure (by simp only [List.getElem?_toArray, List.getElem?_cons_succ, List.getElem?_cons_zero]; rfl) (by rfl) (fun K hK => ?_); (go_simp; try go_bits; try go_simp); refine hK _ ?_; clear hK K) | (refine E.plan_load (by simp only [List.getElem?_toArray, List.getElem?_cons_succ, List.getElem?_cons_zero]; rfl) (by rfl) (by rfl) (fun K hK => ?_); (go_simp; try go_bits; try go_simp); refine hK _ ?_; clear hK K) | (refine E.plan_skip (E.Ext.refl _) (by simp only [List.getElem?_toArray, List.getElem?_cons_succ, List.getElem?_cons_zero]; rfl) (by rfl) (fun K hK => ?_); (go_simp; try go_bits; try go_simp); refine hK _ ?_; clear hK K))
                  refine E.plan_eff (by simp only [List.getElem?_toArray, List.getElem?_cons_succ, List.getElem?_cons_zero]; rfl) (by rfl) (fun K hK => ?_); (go_simp; try go_bits)
                  refine (of_any x A5 c5 _).mono ?_; rintro e w7 ⟨rfl, hx7⟩; refine hK _ _ hx7 ?_; clear hK K
                  dsimp only [Key.val, Entry.key]
                  repeat (first | (refine E.plan_pure (by simp only [List.getElem?_toArray, List.getElem?_cons_succ, List.getElem?_cons_zero]; rfl) (by rfl) (fun K hK => ?_); (go_simp; try go_bits; try go_simp); refine hK _ ?_; clear hK K) | (refine E.plan_load (by simp only [List.getElem?_toArray, List.getElem?_cons_succ, List.getElem?_cons_zero]; rfl) (by rfl) (by rfl) (fun K hK => ?_); (go_simp; try go_bits; try go_simp); refine hK _ ?_; clear hK K) | (refine E.plan_skip (E.Ext.refl _) (by simp only [List.getElem?_toArray, List.getElem?_cons_succ, List.getElem?_cons_zero]; rfl) (by rfl) (fun K hK => ?_); (go_simp; try go_bits; try go_simp); refine hK _ ?_; clear hK K))
                  refine E.plan_eff (by simp only [List.getElem?_toArray, List.getElem?_cons_succ, List.getElem?_cons_zero]; rfl) (by rfl) (fun K hK => ?_); (go_simp; try go_bits)
                  refine (less_any x.key y.key _).mono ?_; rintro e w8 ⟨rfl, hx8⟩; refine hK _ _ hx8 ?_; clear hK K
                  rw [hless]
                  repeat (first | (refine E.plan_pure (by simp only [List.getElem?_toArray, List.getElem?_cons_succ, List.getElem?_cons_zero]; rfl) (by rfl) (fun K hK => ?_); (go_simp; try go_bits; try go_simp); refine hK _ ?_; clear hK K) | (refine E.plan_load (by simp only [List.getElem?_toArray, List.getElem?_cons_succ, List.getElem?_cons_zero]; rfl) (by rfl) (by rfl) (fun K hK => ?_); (go_simp; try go_bits; try go_simp); refine hK _ ?_; clear hK K) | (refine E.plan_skip (E.Ext.refl _) (by simp only [List.getElem?_toArray, List.getElem?_cons_succ, List.getElem?_cons_zero]; rfl) (by rfl) (fun K hK => ?_); (go_simp; try go_bits; try go_simp); refine hK _ ?_; clear hK K))
                  refine E.plan_nil ?_
                  go_wp2_with fail
                  go_roundw
                  case rel => exact ⟨_, m3, by go_num, ((hx0i.trans (E.Ext.drew _)).trans hx7).trans hx8, ((hri.ext (E.Ext.drew _)).ext hx7).ext hx8, HSO3.out, fun z h => HM.out z (List.mem_cons_of_mem _ h), fun z h => HD.out z (List.mem_cons_of_mem _ h)⟩
                  case measure => simp [intOf]
end Go.Proofs.Ytjomgaafnpbmhaa.U
