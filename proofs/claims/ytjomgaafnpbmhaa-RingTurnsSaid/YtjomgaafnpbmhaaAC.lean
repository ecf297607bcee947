/- RingTurns, walked. -/
import Derived.Test.YtjomgaafnpbmhaaAB
namespace Go.Proofs.Ytjomgaafnpbmhaa.AC
open Go.RowKit
open Go.Proofs.Ytjomgaafnpbmhaa
open Go.Proofs.Ytjomgaafnpbmhaa.A Go.Proofs.Ytjomgaafnpbmhaa.K Go.Proofs.Ytjomgaafnpbmhaa.B Go.Proofs.Ytjomgaafnpbmhaa.C Go.Proofs.Ytjomgaafnpbmhaa.D Go.Proofs.Ytjomgaafnpbmhaa.F Go.Proofs.Ytjomgaafnpbmhaa.G Go.Proofs.Ytjomgaafnpbmhaa.H Go.Proofs.Ytjomgaafnpbmhaa.I Go.Proofs.Ytjomgaafnpbmhaa.J Go.Proofs.Ytjomgaafnpbmhaa.M Go.Proofs.Ytjomgaafnpbmhaa.O Go.Proofs.Ytjomgaafnpbmhaa.P Go.Proofs.Ytjomgaafnpbmhaa.R Go.Proofs.Ytjomgaafnpbmhaa.V Go.Proofs.Ytjomgaafnpbmhaa.W Go.Proofs.Ytjomgaafnpbmhaa.X Go.Proofs.Ytjomgaafnpbmhaa.Y Go.Proofs.Ytjomgaafnpbmhaa.Z Go.Proofs.Ytjomgaafnpbmhaa.AA Go.Proofs.Ytjomgaafnpbmhaa.AB
set_option linter.unusedVariables false
set_option linter.unusedSimpArgs false

/-- Keys of the call's own are written over. -/
theorem both_over57 {w w' : World} {b pb rb K first : Nat} {l : List Entry} {S : Nat → Prop} (h : Both w b pb rb K first l) (hS : ∀ k, S k → ∃ cs, E.Blk w k 57 cs) (hx : E.ExtS S w w') : Both w' b pb rb K first l := by
  obtain ⟨⟨c1, hb⟩, ⟨c2, hpb⟩⟩ := ring_blks h.ring
  obtain ⟨c3, hrb⟩ := ref_blk h.ref
  have far : ∀ k t cs, E.Blk w k t cs → (57 : Nat) ≠ t → ¬ S k := fun k t cs hk ht hs => by
    obtain ⟨cs', h'⟩ := hS k hs
    exact h'.ne hk ht rfl
  have hD : ∀ k, D3 w k → ¬ S k := fun k ⟨cs, hk⟩ hs => far _ _ _ hk (by decide) hs
  refine ⟨((ringAt_D3 h.ring).extS hx ?_ ?_ ?_ hD).mono (fun _ _ _ => trivial), ((refAt_D3 h.ref).extS hx ?_ ?_ hD).mono (fun _ _ _ => trivial), h.sorted, h.short⟩
  · exact far _ _ _ hb (by decide)
  · exact far _ _ _ hpb (by decide)
  · exact fun k cs hk => far _ _ _ hk (by decide)
  · exact far _ _ _ hrb (by decide)
  · exact fun k cs hk => far _ _ _ hk (by decide)

set_option maxRecDepth 8000 in
set_option maxHeartbeats 3200000 in
theorem turns_walk (keep : Int) (l : List Turn) (A : Option Addr) (c : Nat) (w : World) (hl : Turned w A c l) :
    Calls Try.prog 4 #[.int .i64 keep, .slice A l.length c] w fun e w' => e = .returned (.bool true) ∧ E.Ext w w' := by
  have hcap := hl.cap
  have hmax := hl.max
  by_cases hk : 1 ≤ keep ∧ keep ≤ 200
  · obtain ⟨n, rfl⟩ : ∃ n : Nat, keep = n := ⟨keep.toNat, by omega⟩
    have hn1 : 1 ≤ n := by omega
    have hn2 : n ≤ 200 := by omega
    clear hk
    go_enter Try.func4, Try.ntmps4
    go_wp2_with fail
    refine (new_any n _ hn1 hn2).mono ?_
    rintro e w1 ⟨b, pb, rfl, hr1, hb, hpb, hx1⟩
    go_wp2_with fail
    refine (refNew_any n _ hn1 hn2).mono ?_
    rintro e w2 ⟨rb, rfl, hf2, hrb, hx2⟩
    have hB0 : Both w2 b pb rb n 0 [] := ⟨hr1.ext hx2, hf2, sorted_nil, fun y hy => by cases hy⟩
    have hrb' : w.heap.size ≤ rb := Nat.le_trans hx1.size hrb
    have hx02 := hx1.trans hx2
    clear hr1 hf2 hrb hx1 hx2
    go_wp2_with fail
    go_loopw [9, 10] (fun v _ wr => ∃ (k first : Nat) (m : List Entry), v = .int .i64 k ∧ k ≤ l.length ∧ E.Ext w wr ∧ Both wr b pb rb n first m) (fun v _ _ => l.length - (intOf v).toNat)
    case atStart => exact ⟨0, 0, [], rfl, Nat.zero_le _, hx02, hB0⟩
    case round =>
      clear hB0 hx02
      obtain ⟨k, first, m, rfl, hk, hx, hB⟩ := hrel
      by_cases hL : IsLong l
      · have HL := Lib.hid hL
        clear hL
        go_wp2_with fail
        refine (long_yes l A c _ (hl.ext hx) HL.out).mono ?_
        rintro e w3 ⟨rfl, rfl⟩
        go_wp2_with fail
        refine (awake_any _).mono ?_
        rintro e w4 ⟨rfl, hx4⟩
        go_wp2_with fail
        go_ret
        exact ⟨rfl, hx.trans hx4⟩
      · have HL := Lib.hid hL
        clear hL
        by_cases hlt : k < l.length
        · obtain ⟨y, hy⟩ : ∃ y, l[k]? = some y := ⟨l[k], List.getElem?_eq_getElem hlt⟩
          have hy20 : y.e.data.length ≤ 20 := by
            rcases Nat.lt_or_ge 20 y.e.data.length with h1 | h1
            · exact (HL.out (Or.inr ⟨y, List.mem_of_getElem? hy, h1⟩)).elim
            · exact h1
          obtain ⟨b0, o0, rfl, hb0, hen⟩ := hl.at_ (by omega)
          have hI0 := hen k y hy
          obtain ⟨⟨c0, c1, c2, c3, Ad, cd, c4, hsd⟩, c5, c6⟩ := hI0.ext hx hb0
          have hsd0 : Sl w 1 Ad y.e.data.length cd (ints y.e.data) := by
            obtain ⟨⟨_, _, _, _, Ad', cd', c4', hsd'⟩, _, _⟩ := hI0
            have h1 := (hx.cell (p := ⟨b0, o0 + k * 7 + 4, none⟩) hb0).trans c4'
            rw [c4] at h1
            simp only [Option.some.injEq, Value.slice.injEq] at h1
            obtain ⟨rfl, _, rfl⟩ := h1
            exact hsd'
          clear hen hy hI0
          go_wp2_with fail
          refine (long_no l _ c _ (hl.ext hx) HL.out).mono ?_
          rintro e w3 ⟨rfl, rfl⟩
          go_wp2_with fail
          refine (told_any b pb rb n first m y Ad cd w _ hx hb hpb hrb' hB hsd0 hy20).mono ?_
          rintro e w4 ⟨rfl, first', m', hB4, hx4⟩
          clear c0 c1 c2 c3 c4 c5 c6 hsd hB hx
          go_wp2_with fail
          refine (keys_any b pb ⟨n, first', m'⟩ _ hB4.ring).mono ?_
          rintro e w5 ⟨Ak, ck, rfl, hx5, hok⟩
          dsimp only at hok ⊢
          have hB5 := hB4.ext hx5
          have hm2 : m'.length ≤ 200 := by
            have h1 := hB4.ring.ok.many
            simp only at h1
            omega
          have hkl : (m'.map Entry.key).length ≤ 1099511627776 := by simp; omega
          have HKL := Lib.hid hkl
          clear hkl
          go_wp2_with fail
          refine E.wp_plan E.ext_pre 1000000 [(0, true), (1, true), (2, false), (3, false), (4, true), (5, true), (6, true), (8, true), (9, true), (10, true), (11, true), (12, true), (7, false), (13, true), (14, true)] (by kernel_rfl) (by kernel_rfl) ?_
          repeat (first | (refine E.plan_pure (by simp only [List.getElem?_toArray, List.getElem?_cons_succ, List.getElem?_cons_zero]; rfl) (by rfl) (fun K hK => ?_); (go_simp; try go_bits; try go_simp); refine hK _ ?_; clear hK K) | (refine E.plan_load (by simp only [List.getElem?_toArray, List.getElem?_cons_succ, List.getElem?_cons_zero]; rfl) (by rfl) (by rfl) (fun K hK => ?_); (go_simp; try go_bits; try go_simp); refine hK _ ?_; clear hK K) | (refine E.plan_skip (E.Ext.refl _) (by simp only [List.getElem?_toArray, List.getElem?_cons_succ, List.getElem?_cons_zero]; rfl) (by rfl) (fun K hK => ?_); (go_simp; try go_bits; try go_simp); refine hK _ ?_; clear hK K))
          refine E.plan_eff (by simp only [List.getElem?_toArray, List.getElem?_cons_succ, List.getElem?_cons_zero]; rfl) (by rfl) (fun K hK => ?_); (go_simp; try go_bits)
          refine (refKeys_any rb n m' _ (hB5.ref.ext (E.Ext.drew _)) hm2).mono ?_; rintro e w6 ⟨Aq, cq, rfl, hx6, hoq⟩; refine hK _ _ hx6 ?_; clear hK K
          have hsk := sameKeys_any (m'.map Entry.key) (m'.map Entry.key) Ak Aq ck cq _ (((own_sl' hok).ext (E.Ext.drew _)).ext hx6) (own_sl' hoq) HKL.out HKL.out
          simp only [List.length_map] at hsk
          refine E.plan_eff (by simp only [List.getElem?_toArray, List.getElem?_cons_succ, List.getElem?_cons_zero]; rfl) (by rfl) (fun K hK => ?_); (go_simp; try go_bits)
          refine (hsk).mono ?_; rintro e w7 ⟨rfl, hx7⟩; refine hK _ _ hx7 ?_; clear hK K
          clear hsk
          have hx57 := ((E.Ext.drew w5).trans hx6).trans hx7
          have hB7 := hB5.ext hx57
          obtain ⟨Ar, cr, hBr, hcr, hmr⟩ := hB7.ref.blk
          obtain ⟨cB, fB⟩ := hBr.facts
          repeat (first | (refine E.plan_pure (by simp only [List.getElem?_toArray, List.getElem?_cons_succ, List.getElem?_cons_zero]; rfl) (by rfl) (fun K hK => ?_); (go_simp; try go_bits; try go_simp); refine hK _ ?_; clear hK K) | (refine E.plan_load (by simp only [List.getElem?_toArray, List.getElem?_cons_succ, List.getElem?_cons_zero]; rfl) (by rfl) (by rfl) (fun K hK => ?_); (go_simp; try go_bits; try go_simp); refine hK _ ?_; clear hK K) | (refine E.plan_skip (E.Ext.refl _) (by simp only [List.getElem?_toArray, List.getElem?_cons_succ, List.getElem?_cons_zero]; rfl) (by rfl) (fun K hK => ?_); (go_simp; try go_bits; try go_simp); refine hK _ ?_; clear hK K))
          refine E.plan_eff (by simp only [List.getElem?_toArray, List.getElem?_cons_succ, List.getElem?_cons_zero]; rfl) (by rfl) (fun K hK => ?_); (go_simp; try go_bits)
          refine (len_any b pb ⟨n, first', m'⟩ _ hB7.ring).mono ?_
          rintro e w8 ⟨rfl, rfl⟩
          refine hK _ _ (E.Ext.refl _) ?_; clear hK K
          repeat (first | (refine E.plan_pure (by simp only [List.getElem?_toArray, List.getElem?_cons_succ, List.getElem?_cons_zero]; rfl) (by rfl) (fun K hK => ?_); (go_simp; try go_bits; try go_simp); refine hK _ ?_; clear hK K) | (refine E.plan_load (by simp only [List.getElem?_toArray, List.getElem?_cons_succ, List.getElem?_cons_zero]; rfl) (by rfl) (by rfl) (fun K hK => ?_); (go_simp; try go_bits; try go_simp); refine hK _ ?_; clear hK K) | (refine E.plan_skip (E.Ext.refl _) (by simp only [List.getElem?_toArray, List.getElem?_cons_succ, List.getElem?_cons_zero]; rfl) (by rfl) (fun K hK => ?_); (go_simp; try go_bits; try go_simp); refine hK _ ?_; clear hK K))
          refine E.plan_nil ?_
          have hok7 := own_ext hok hx57
          go_wp2_with fail
          have hol := overKeys_any _ _ _ _ _ _ hok7 HKL.out
          simp only [List.length_map] at hol
          refine hol.mono ?_
          rintro e w9 ⟨rfl, hs9⟩
          have hB9 := both_over57 hB7 (fun k hk => own_type hok7 (by simpa using hk)) hs9
          have hx9 := E.Ext.thenS (((hx4.trans hx5)).trans hx57) hs9 (fun k hk hs => by
            have h1 := (hok7.lt k (by simpa using hs)).1
            have h2 := hx4.size
            omega)
          clear cB fB
          go_wp2_with fail
          go_roundw
          case rel => exact ⟨k + 1, first', m', by go_num, by omega, hx9, hB9⟩
          case measure => simp [intOf]; omega
        · go_wp2_with fail
          refine (long_no l A c _ (hl.ext hx) HL.out).mono ?_
          rintro e w3 ⟨rfl, rfl⟩
          go_wp2_with fail
          refine (awake_any _).mono ?_
          rintro e w4 ⟨rfl, hx4⟩
          go_wp2_with fail
          go_ret
          exact ⟨rfl, hx.trans hx4⟩
  · have hk' : keep < 1 ∨ 200 < keep := by omega
    have HK := Lib.hid hk'
    clear hk hk'
    go_enter Try.func4, Try.ntmps4
    go_wp2_with fail
    refine (new_no' keep _ HK.out).mono ?_
    rintro e w1 ⟨rfl, rfl⟩
    go_wp2_with fail
    refine (refNew_no keep _ HK.out).mono ?_
    rintro e w2 ⟨rfl, rfl⟩
    go_wp2_with fail
    refine wp_loop_rounds 1 ?_
    rw [rounds_succ]
    go_wp2_with fail
    refine (awake_any _).mono ?_
    rintro e w4 ⟨rfl, hx4⟩
    go_wp2_with fail
    go_ret
    exact ⟨rfl, hx4⟩
end Go.Proofs.Ytjomgaafnpbmhaa.AC
