/- told, walked. -/
import Derived.Test.YtjomgaafnpbmhaaAA
namespace Go.Proofs.Ytjomgaafnpbmhaa.AB
open Go.RowKit
open Go.Proofs.Ytjomgaafnpbmhaa
open Go.Proofs.Ytjomgaafnpbmhaa.A Go.Proofs.Ytjomgaafnpbmhaa.K Go.Proofs.Ytjomgaafnpbmhaa.B Go.Proofs.Ytjomgaafnpbmhaa.C Go.Proofs.Ytjomgaafnpbmhaa.D Go.Proofs.Ytjomgaafnpbmhaa.F Go.Proofs.Ytjomgaafnpbmhaa.G Go.Proofs.Ytjomgaafnpbmhaa.H Go.Proofs.Ytjomgaafnpbmhaa.I Go.Proofs.Ytjomgaafnpbmhaa.J Go.Proofs.Ytjomgaafnpbmhaa.M Go.Proofs.Ytjomgaafnpbmhaa.O Go.Proofs.Ytjomgaafnpbmhaa.P Go.Proofs.Ytjomgaafnpbmhaa.R Go.Proofs.Ytjomgaafnpbmhaa.V Go.Proofs.Ytjomgaafnpbmhaa.W Go.Proofs.Ytjomgaafnpbmhaa.X Go.Proofs.Ytjomgaafnpbmhaa.Y Go.Proofs.Ytjomgaafnpbmhaa.Z Go.Proofs.Ytjomgaafnpbmhaa.AA
set_option linter.unusedVariables false
set_option linter.unusedSimpArgs false

def Told (W0 : World) (b pb rb KK : Nat) (e : Ending) (w' : World) : Prop :=
  e = .returned (.bool true) ∧ ∃ first l, Both w' b pb rb KK first l ∧ E.Ext W0 w'
def bareE : Entry := ⟨0, 0, 0, false, []⟩


set_option maxRecDepth 8000 in
set_option maxHeartbeats 3200000 in
theorem told_any (b pb rb KK first : Nat) (l : List Entry) (x : Turn) (A : Option Addr) (c : Nat) (W0 w : World) (hW : E.Ext W0 w) (hb : W0.heap.size ≤ b) (hpb : W0.heap.size ≤ pb) (hrb : W0.heap.size ≤ rb)
    (h : Both w b pb rb KK first l) (hx : Sl W0 1 A x.e.data.length c (ints x.e.data)) (hd : x.e.data.length ≤ 20) :
    Calls Try.prog 15 #[.pointer (some ⟨b, 0, none⟩), .pointer (some ⟨rb, 0, none⟩), x.val A c] w (Told W0 b pb rb KK) := by
  obtain ⟨xe, xd, xp⟩ := x
  simp only at hx hd
  have HW := Lib.hid hW
  have hw0 := hW.size
  clear hW
  obtain ⟨I1, I2, I3, l2, hI⟩ : ∃ I1 I2 I3 l2, insert_ KK l xe = (I1, I2, I3, l2) := ⟨_, _, _, _, rfl⟩
  have HI := Lib.hid hI
  clear hI
  have hs2 : Sorted l2 := by have := sorted_insert (K := KK) (x := xe) h.sorted; rw [HI.out] at this; exact this
  have hd2 : ∀ y, y ∈ l2 → y.data.length ≤ 20 := fun y hy => by
    have h3 := insert_mem (K := KK) (l := l) (x := xe) (y := y) (by rw [HI.out]; exact hy)
    rcases h3 with h3 | h3
    · exact h.short y h3
    · subst h3; exact hd
  have HS2 := Lib.hid hs2
  have HD2 := Lib.hid hd2
  clear hs2 hd2
  have hK := h.ring.ok.most
  have hlK := h.ring.ok.many
  simp only at hK hlK
  have hfar : ∀ k, k < W0.heap.size → ¬ (k = b ∨ k = pb) := fun k hk => by omega
  have HF := Lib.hid hfar
  clear hfar
  unfold Turn.val
  go_enter Try.func15, Try.ntmps15
  go_wp2_with fail
  refine (copyEntry_any xe A c _ (hx.ext (HW.out.trans (E.Ext.alloc _ _))) (by omega)).mono ?_
  rintro e w1 ⟨A1, c1, rfl, hx1, ho1⟩
  dsimp only [Entry.val]
  have T1 := E.blk0 hx1 rfl
  have hsz1 := T1.lt
  obtain ⟨cT, fT⟩ := T1.facts
  have hx12 := E.Ext.alloc w1 (.cells #[.int .i64 xe.stamp, .int .i64 xe.sensor, .int .i64 xe.seq, .bool xe.input, .slice A1 xe.data.length c1] 30)
  have hxw2 := ((E.Ext.alloc w _).trans hx1).trans hx12
  have ho2 := own_ext ho1 hx12
  have T2 := T1.ext hx12
  have I2 := E.Blk.new w1 30 #[.int .i64 xe.stamp, .int .i64 xe.sensor, .int .i64 xe.seq, .bool xe.input, .slice A1 xe.data.length c1]
  go_wp2_with fail
  refine (insert_any (F := D3 w) b pb ⟨KK, first, l⟩ xe A1 c1 _ ((ringAt_D3 h.ring).ext hxw2) h.sorted (own_sl' ho2) (by omega)).mono ?_
  rintro e w3 ⟨rfl, hr3, h23, _⟩
  rw [HI.out] at hr3 ⊢
  dsimp only at hr3 ⊢
  have hB23 : ∀ cs t g, E.Blk w g t cs → (66 : Nat) ≠ t → (69 : Nat) ≠ t → ¬ (g = b ∨ g = pb) := fun cs t g hg h1 h2 => by
    obtain ⟨⟨c1, hb'⟩, ⟨c2, hpb'⟩⟩ := ring_blks h.ring
    rintro (e | e)
    · exact hb'.ne hg h1 e.symm
    · exact hpb'.ne hg h2 e.symm
  have hnb : ∀ g t cs, E.Blk (w1.alloc (.cells #[.int .i64 xe.stamp, .int .i64 xe.sensor, .int .i64 xe.seq, .bool xe.input, .slice A1 xe.data.length c1] 30)) g t cs → (66 : Nat) ≠ t → (69 : Nat) ≠ t → ¬ (g = b ∨ g = pb) := fun g t cs hg h1 h2 => by
    obtain ⟨⟨c1, hb'⟩, ⟨c2, hpb'⟩⟩ := ring_blks h.ring
    rintro (e | e)
    · exact (hb'.ext hxw2).ne hg h1 e.symm
    · exact (hpb'.ext hxw2).ne hg h2 e.symm
  have T3 := T2.extS h23 (hnb _ _ _ T2 (by decide) (by decide))
  have I3 := I2.extS h23 (hnb _ _ _ I2 (by decide) (by decide))
  have ho3 := own_extS ho2 h23 (fun g cs hg => hnb _ _ _ hg (by decide) (by decide))
  have hW3 := E.Ext.thenS (HW.out.trans hxw2) h23 HF.out
  have hrm := ref_mid h hxw2 h23
  clear cT fT
  obtain ⟨cT, fT⟩ := T3.facts
  obtain ⟨cI, fI⟩ := I3.facts
  go_wp2_with fail
  refine (refInsert_any (F := D3 w) rb KK l xe A c _ hrm hlK hK (hx.ext hW3) (by omega)).mono ?_
  rintro e w4 ⟨rfl, hr4, h34⟩
  rw [HI.out] at hr4 ⊢
  dsimp only at hr4 ⊢
  obtain ⟨c3, hrb3⟩ := ref_blk hrm
  have hnr : ∀ g t cs, E.Blk w3 g t cs → (51 : Nat) ≠ t → ¬ g = rb := fun g t cs hg h1 e => hrb3.ne hg h1 e.symm
  have T4 := T3.extS h34 (hnr _ _ _ T3 (by decide))
  have I4 := I3.extS h34 (hnr _ _ _ I3 (by decide))
  have ho4 := own_extS ho3 h34 (fun g cs hg => hnr _ _ _ hg (by decide))
  have hW4 := E.Ext.thenS hW3 h34 (fun k hk e => by have e' : k = rb := e; omega)
  clear cT fT cI fI
  obtain ⟨cT, fT⟩ := T4.facts
  obtain ⟨cI, fI⟩ := I4.facts
  go_wp2_with fail
  refine (sameEntry_any xe xe A1 A c1 c _ (own_sl' ho4) (hx.ext hW4)).mono ?_
  rintro e w5 ⟨rfl, hx5⟩
  have T5 := T4.ext hx5
  have I5 := I4.ext hx5
  have ho5 := own_ext ho4 hx5
  clear cT fT cI fI
  obtain ⟨cT, fT⟩ := T5.facts
  obtain ⟨cI, fI⟩ := I5.facts
  go_wp2_with fail
  refine (overInts_any _ _ _ _ _ _ ho5 (by omega)).mono ?_
  rintro e w6 ⟨rfl, h56⟩
  have hS6 : ∀ k, (Value.slice A1 xe.data.length c1).ownBlock = some k → D3 w5 k ∧ w.heap.size ≤ k ∧ k < (w1.alloc (.cells #[.int .i64 xe.stamp, .int .i64 xe.sensor, .int .i64 xe.seq, .bool xe.input, .slice A1 xe.data.length c1] 30)).heap.size := fun k hk =>
    ⟨own_D3 ho5 k hk, by have := (ho1.lt k hk).1; simp at this; omega, by have := (ho1.lt k hk).2; simp; omega⟩
  have hB6 : Both w6 b pb rb KK first l2 := both_mid h hxw2 hr3 h23 (hr4.ext hx5) (h34.trans (hx5.toS _)) hS6 h56 HS2.out HD2.out
  have T6 := T5.extS h56 (fun e => by
    obtain ⟨cs, h'⟩ := own_D3 ho5 _ e
    exact h'.ne T5 (by decide) rfl)
  have hW6 := E.Ext.thenS (hW4.trans hx5) h56 (fun k hk hs => by
    have := (hS6 k hs).2.1
    omega)
  clear hS6 h56 ho5 I5 ho4 I4 hr4 h34 ho3 I3 hr3 h23 ho2 I2 T1 T2 T3 T4 T5 hrm hnr hnb hB23 hxw2 hx12 hx1 hx5 hW3 hW4 hrb3 ho1 HS2 HD2 cT fT cI fI h
  obtain ⟨cT, fT⟩ := T6.facts
  cases xd with
  | false =>
    go_wp2_with fail
    have hBa := hB6
    have Ta := T6
    have hWa := hW6
    clear cT fT hB6 T6 hW6
    have hl2 : l2.length ≤ 200 := by
      have h1 := hBa.ring.ok.many
      have h2 := hBa.ring.ok.most
      simp only at h1 h2
      omega
    obtain ⟨cTa, fTa⟩ := Ta.facts
    by_cases hp : 0 ≤ xp ∧ xp < l2.length
    · obtain ⟨i, rfl⟩ : ∃ i : Nat, xp = i := ⟨xp.toNat, by omega⟩
      have hil : i < l2.length := by omega
      obtain ⟨y, hy⟩ : ∃ y, l2[i]? = some y := ⟨l2[i], List.getElem?_eq_getElem hil⟩
      have HY := Lib.hid hy
      have hyd := hBa.short y (List.mem_of_getElem? hy)
      clear hy hp
      go_wp2_with fail
      refine (get_yes b pb ⟨KK, first, l2⟩ i y _ hBa.ring HY.out (by omega)).mono ?_
      rintro e w8 ⟨Ap, cp, rfl, hx8, hop⟩
      dsimp only [Entry.val]
      clear cTa fTa
      have T8 := Ta.ext hx8
      have P8 := E.Blk.new w8 30 #[.int .i64 y.stamp, .int .i64 y.sensor, .int .i64 y.seq, .bool y.input, .slice Ap y.data.length cp]
      have hop8 := own_ext hop (E.Ext.alloc w8 (.cells #[.int .i64 y.stamp, .int .i64 y.sensor, .int .i64 y.seq, .bool y.input, .slice Ap y.data.length cp] 30))
      obtain ⟨cT8, fT8⟩ := (T8.alloc (.cells #[.int .i64 y.stamp, .int .i64 y.sensor, .int .i64 y.seq, .bool y.input, .slice Ap y.data.length cp] 30)).facts
      go_wp2_with fail
      refine (refGet_yes rb KK l2 i y _ ((hBa.ref.ext hx8).ext (E.Ext.alloc _ _)) HY.out (by omega)).mono ?_
      rintro e w9 ⟨Aq, cq, rfl, hx9, hoq⟩
      try dsimp only [Entry.val]
      have hP9 := P8.ext hx9
      have P9 := hP9.alloc (.cells #[.int .i64 y.stamp, .int .i64 y.sensor, .int .i64 y.seq, .bool y.input, .slice Aq y.data.length cq] 30)
      have Q9 := E.Blk.new w9 30 #[.int .i64 y.stamp, .int .i64 y.sensor, .int .i64 y.seq, .bool y.input, .slice Aq y.data.length cq]
      have T9 := ((T8.alloc (.cells #[.int .i64 y.stamp, .int .i64 y.sensor, .int .i64 y.seq, .bool y.input, .slice Ap y.data.length cp] 30)).ext hx9).alloc (.cells #[.int .i64 y.stamp, .int .i64 y.sensor, .int .i64 y.seq, .bool y.input, .slice Aq y.data.length cq] 30)
      have hop9 := own_ext (own_ext hop8 hx9) (E.Ext.alloc w9 (.cells #[.int .i64 y.stamp, .int .i64 y.sensor, .int .i64 y.seq, .bool y.input, .slice Aq y.data.length cq] 30))
      obtain ⟨cP9, fP9⟩ := P9.facts
      obtain ⟨cQ9, fQ9⟩ := Q9.facts
      go_wp2_with fail
      refine (sameEntry_any y y Ap Aq cp cq _ (own_sl' hop9) ((own_sl' hoq).ext (E.Ext.alloc _ _))).mono ?_
      rintro e w10 ⟨rfl, hx10⟩
      have P10 := P9.ext hx10
      have T10 := T9.ext hx10
      obtain ⟨cP10, fP10⟩ := P10.facts
      go_wp2_with fail
      have hop10 := own_ext hop9 hx10
      refine (overInts_any _ _ _ _ _ _ hop10 (by omega)).mono ?_
      rintro e w11 ⟨rfl, hs11⟩
      have hxa10 := (((hx8.trans (E.Ext.alloc w8 (.cells #[.int .i64 y.stamp, .int .i64 y.sensor, .int .i64 y.seq, .bool y.input, .slice Ap y.data.length cp] 30))).trans hx9).trans (E.Ext.alloc w9 (.cells #[.int .i64 y.stamp, .int .i64 y.sensor, .int .i64 y.seq, .bool y.input, .slice Aq y.data.length cq] 30))).trans hx10
      have hS11 : ∀ k, (Value.slice _ _ _).ownBlock = some k → D3 w10 k ∧ w6.heap.size ≤ k := fun k hk => ⟨own_D3 hop10 k hk, by have := (hop10.lt k hk).1; have := hx8.size; simp at *; omega⟩
      have hB11 := both_over hBa hxa10 hS11 hs11
      have T11 := T10.extS hs11 (fun e => by
        obtain ⟨cs, h'⟩ := own_D3 hop10 _ e
        exact h'.ne T10 (by decide) rfl)
      have hW11 := E.Ext.thenS (hWa.trans hxa10) hs11 (fun k hk hs => by
        have := (hS11 k hs).2
        have := hWa.size
        omega)
      clear cT8 fT8 cP9 fP9 cQ9 fQ9 cP10 fP10
      obtain ⟨cT11, fT11⟩ := T11.facts
      go_wp2_with fail
      refine E.wp_plan E.ext_pre 1000000 [(0, true), (1, true), (2, true), (3, true), (4, true), (6, true), (7, true), (8, true), (5, false), (9, false), (10, true), (11, true), (12, true), (13, true), (14, true), (15, true), (16, true), (17, true), (18, true), (20, true), (21, true), (22, true), (23, true), (24, true), (25, true), (19, false), (26, false), (27, true), (28, true), (29, true)] (by kernel_rfl) (by kernel_rfl) ?_
      repeat (first | (refine E.plan_pure (by simp only [List.getElem?_toArray, List.getElem?_cons_succ, List.getElem?_cons_zero]; rfl) (by rfl) (fun K hK => ?_); (go_simp; try go_bits; try go_simp); refine hK _ ?_; clear hK K) | (refine E.plan_load (by simp only [List.getElem?_toArray, List.getElem?_cons_succ, List.getElem?_cons_zero]; rfl) (by rfl) (by rfl) (fun K hK => ?_); (go_simp; try go_bits; try go_simp); refine hK _ ?_; clear hK K) | (refine E.plan_skip (E.Ext.refl _) (by simp only [List.getElem?_toArray, List.getElem?_cons_succ, List.getElem?_cons_zero]; rfl) (by rfl) (fun K hK => ?_); (go_simp; try go_bits; try go_simp); refine hK _ ?_; clear hK K))
      refine E.plan_eff (by simp only [List.getElem?_toArray, List.getElem?_cons_succ, List.getElem?_cons_zero]; rfl) (by rfl) (fun K hK => ?_); (go_simp; try go_bits)
      refine (until_any b pb ⟨KK, first, l2⟩ (i : Int) _ (hB11.ring.ext (E.Ext.drew _)) hB11.sorted).mono ?_; rintro e w12 ⟨rfl, hx12⟩; refine hK _ _ hx12 ?_; clear hK K
      have hB12 := (hB11.ext (E.Ext.drew _)).ext hx12
      obtain ⟨cT12, fT12⟩ := (T11.drew.ext hx12).facts
      repeat (first | (refine E.plan_pure (by simp only [List.getElem?_toArray, List.getElem?_cons_succ, List.getElem?_cons_zero]; rfl) (by rfl) (fun K hK => ?_); (go_simp; try go_bits; try go_simp); refine hK _ ?_; clear hK K) | (refine E.plan_load (by simp only [List.getElem?_toArray, List.getElem?_cons_succ, List.getElem?_cons_zero]; rfl) (by rfl) (by rfl) (fun K hK => ?_); (go_simp; try go_bits; try go_simp); refine hK _ ?_; clear hK K) | (refine E.plan_skip (E.Ext.refl _) (by simp only [List.getElem?_toArray, List.getElem?_cons_succ, List.getElem?_cons_zero]; rfl) (by rfl) (fun K hK => ?_); (go_simp; try go_bits; try go_simp); refine hK _ ?_; clear hK K))
      refine E.plan_eff (by simp only [List.getElem?_toArray, List.getElem?_cons_succ, List.getElem?_cons_zero]; rfl) (by rfl) (fun K hK => ?_); (go_simp; try go_bits)
      refine (refUntil_any rb KK l2 (i : Int) _ hB12.ref hl2).mono ?_; rintro e w13 ⟨rfl, hx13⟩; refine hK _ _ hx13 ?_; clear hK K
      have hB13 := hB12.ext hx13
      obtain ⟨cT13, fT13⟩ := ((T11.drew.ext hx12).ext hx13).facts
      repeat (first | (refine E.plan_pure (by simp only [List.getElem?_toArray, List.getElem?_cons_succ, List.getElem?_cons_zero]; rfl) (by rfl) (fun K hK => ?_); (go_simp; try go_bits; try go_simp); refine hK _ ?_; clear hK K) | (refine E.plan_load (by simp only [List.getElem?_toArray, List.getElem?_cons_succ, List.getElem?_cons_zero]; rfl) (by rfl) (by rfl) (fun K hK => ?_); (go_simp; try go_bits; try go_simp); refine hK _ ?_; clear hK K) | (refine E.plan_skip (E.Ext.refl _) (by simp only [List.getElem?_toArray, List.getElem?_cons_succ, List.getElem?_cons_zero]; rfl) (by rfl) (fun K hK => ?_); (go_simp; try go_bits; try go_simp); refine hK _ ?_; clear hK K))
      refine E.plan_eff (by simp only [List.getElem?_toArray, List.getElem?_cons_succ, List.getElem?_cons_zero]; rfl) (by rfl) (fun K hK => ?_); (go_simp; try go_bits)
      refine (twin_any b pb ⟨KK, first, l2⟩ xe.sensor (i : Int) _ hB13.ring).mono ?_; rintro e w14 ⟨rfl, hx14⟩; refine hK _ _ hx14 ?_; clear hK K
      have hB14 := hB13.ext hx14
      obtain ⟨cT14, fT14⟩ := (((T11.drew.ext hx12).ext hx13).ext hx14).facts
      repeat (first | (refine E.plan_pure (by simp only [List.getElem?_toArray, List.getElem?_cons_succ, List.getElem?_cons_zero]; rfl) (by rfl) (fun K hK => ?_); (go_simp; try go_bits; try go_simp); refine hK _ ?_; clear hK K) | (refine E.plan_load (by simp only [List.getElem?_toArray, List.getElem?_cons_succ, List.getElem?_cons_zero]; rfl) (by rfl) (by rfl) (fun K hK => ?_); (go_simp; try go_bits; try go_simp); refine hK _ ?_; clear hK K) | (refine E.plan_skip (E.Ext.refl _) (by simp only [List.getElem?_toArray, List.getElem?_cons_succ, List.getElem?_cons_zero]; rfl) (by rfl) (fun K hK => ?_); (go_simp; try go_bits; try go_simp); refine hK _ ?_; clear hK K))
      refine E.plan_eff (by simp only [List.getElem?_toArray, List.getElem?_cons_succ, List.getElem?_cons_zero]; rfl) (by rfl) (fun K hK => ?_); (go_simp; try go_bits)
      refine (refTwin_any rb KK l2 xe.sensor (i : Int) _ hB14.ref hl2).mono ?_; rintro e w15 ⟨rfl, hx15⟩; refine hK _ _ hx15 ?_; clear hK K
      repeat (first | (refine E.plan_pure (by simp only [List.getElem?_toArray, List.getElem?_cons_succ, List.getElem?_cons_zero]; rfl) (by rfl) (fun K hK => ?_); (go_simp; try go_bits; try go_simp); refine hK _ ?_; clear hK K) | (refine E.plan_load (by simp only [List.getElem?_toArray, List.getElem?_cons_succ, List.getElem?_cons_zero]; rfl) (by rfl) (by rfl) (fun K hK => ?_); (go_simp; try go_bits; try go_simp); refine hK _ ?_; clear hK K) | (refine E.plan_skip (E.Ext.refl _) (by simp only [List.getElem?_toArray, List.getElem?_cons_succ, List.getElem?_cons_zero]; rfl) (by rfl) (fun K hK => ?_); (go_simp; try go_bits; try go_simp); refine hK _ ?_; clear hK K))
      refine E.plan_nil ?_
      go_wp2_with fail
      go_ret
      exact ⟨rfl, first, l2, hB14.ext hx15, hW11.trans ((((E.Ext.drew _).trans hx12).trans hx13).trans (hx14.trans hx15))⟩
    · have hp' : xp < 0 ∨ (l2.length : Int) ≤ xp := by omega
      clear hp
      have HP := Lib.hid hp'
      clear hp'
      go_wp2_with fail
      refine (get_no b pb ⟨KK, first, l2⟩ xp _ hBa.ring HP.out).mono ?_
      rintro e w8 ⟨rfl, hx8⟩
      have hop : w8.ownsRow w6.heap.size 3 1 (.slice none 0 0) 0 [] := ⟨rfl, Or.inl ⟨rfl, rfl⟩⟩
      clear cTa fTa
      have T8 := Ta.ext hx8
      have P8 := E.Blk.new w8 30 #[.int .i64 0, .int .i64 0, .int .i64 0, .bool false, .slice none 0 0]
      have hop8 := own_ext hop (E.Ext.alloc w8 (.cells #[.int .i64 0, .int .i64 0, .int .i64 0, .bool false, .slice none 0 0] 30))
      obtain ⟨cT8, fT8⟩ := (T8.alloc (.cells #[.int .i64 0, .int .i64 0, .int .i64 0, .bool false, .slice none 0 0] 30)).facts
      go_wp2_with fail
      refine (refGet_no rb KK l2 xp _ ((hBa.ref.ext hx8).ext (E.Ext.alloc _ _)) HP.out).mono ?_
      rintro e w9 ⟨rfl, hx9⟩
      try dsimp only [Entry.val]
      have hP9 := P8.ext hx9
      have P9 := hP9.alloc (.cells #[.int .i64 0, .int .i64 0, .int .i64 0, .bool false, .slice none 0 0] 30)
      have Q9 := E.Blk.new w9 30 #[.int .i64 0, .int .i64 0, .int .i64 0, .bool false, .slice none 0 0]
      have T9 := ((T8.alloc (.cells #[.int .i64 0, .int .i64 0, .int .i64 0, .bool false, .slice none 0 0] 30)).ext hx9).alloc (.cells #[.int .i64 0, .int .i64 0, .int .i64 0, .bool false, .slice none 0 0] 30)
      have hop9 := own_ext (own_ext hop8 hx9) (E.Ext.alloc w9 (.cells #[.int .i64 0, .int .i64 0, .int .i64 0, .bool false, .slice none 0 0] 30))
      obtain ⟨cP9, fP9⟩ := P9.facts
      obtain ⟨cQ9, fQ9⟩ := Q9.facts
      go_wp2_with fail
      refine (sameEntry_any bareE bareE none none 0 0 _ (Sl.nil _ _) (Sl.nil _ _)).mono ?_
      rintro e w10 ⟨rfl, hx10⟩
      have P10 := P9.ext hx10
      have T10 := T9.ext hx10
      obtain ⟨cP10, fP10⟩ := P10.facts
      go_wp2_with fail
      have hop10 := own_ext hop9 hx10
      refine (overInts_any _ _ _ _ _ _ hop10 (by omega)).mono ?_
      rintro e w11 ⟨rfl, hs11⟩
      have hxa10 := (((hx8.trans (E.Ext.alloc w8 (.cells #[.int .i64 0, .int .i64 0, .int .i64 0, .bool false, .slice none 0 0] 30))).trans hx9).trans (E.Ext.alloc w9 (.cells #[.int .i64 0, .int .i64 0, .int .i64 0, .bool false, .slice none 0 0] 30))).trans hx10
      have hS11 : ∀ k, (Value.slice _ _ _).ownBlock = some k → D3 w10 k ∧ w6.heap.size ≤ k := fun k hk => ⟨own_D3 hop10 k hk, by have := (hop10.lt k hk).1; have := hx8.size; simp at *; omega⟩
      have hB11 := both_over hBa hxa10 hS11 hs11
      have T11 := T10.extS hs11 (fun e => by
        obtain ⟨cs, h'⟩ := own_D3 hop10 _ e
        exact h'.ne T10 (by decide) rfl)
      have hW11 := E.Ext.thenS (hWa.trans hxa10) hs11 (fun k hk hs => by
        have := (hS11 k hs).2
        have := hWa.size
        omega)
      clear cT8 fT8 cP9 fP9 cQ9 fQ9 cP10 fP10
      obtain ⟨cT11, fT11⟩ := T11.facts
      go_wp2_with fail
      refine E.wp_plan E.ext_pre 1000000 [(0, true), (1, true), (2, true), (3, true), (4, true), (6, true), (7, true), (8, true), (5, false), (9, false), (10, true), (11, true), (12, true), (13, true), (14, true), (15, true), (16, true), (17, true), (18, true), (20, true), (21, true), (22, true), (23, true), (24, true), (25, true), (19, false), (26, false), (27, true), (28, true), (29, true)] (by kernel_rfl) (by kernel_rfl) ?_
      repeat (first | (refine E.plan_pure (by simp only [List.getElem?_toArray, List.getElem?_cons_succ, List.getElem?_cons_zero]; rfl) (by rfl) (fun K hK => ?_); (go_simp; try go_bits; try go_simp); refine hK _ ?_; clear hK K) | (refine E.plan_load (by simp only [List.getElem?_toArray, List.getElem?_cons_succ, List.getElem?_cons_zero]; rfl) (by rfl) (by rfl) (fun K hK => ?_); (go_simp; try go_bits; try go_simp); refine hK _ ?_; clear hK K) | (refine E.plan_skip (E.Ext.refl _) (by simp only [List.getElem?_toArray, List.getElem?_cons_succ, List.getElem?_cons_zero]; rfl) (by rfl) (fun K hK => ?_); (go_simp; try go_bits; try go_simp); refine hK _ ?_; clear hK K))
      refine E.plan_eff (by simp only [List.getElem?_toArray, List.getElem?_cons_succ, List.getElem?_cons_zero]; rfl) (by rfl) (fun K hK => ?_); (go_simp; try go_bits)
      refine (until_any b pb ⟨KK, first, l2⟩ xp _ (hB11.ring.ext (E.Ext.drew _)) hB11.sorted).mono ?_; rintro e w12 ⟨rfl, hx12⟩; refine hK _ _ hx12 ?_; clear hK K
      have hB12 := (hB11.ext (E.Ext.drew _)).ext hx12
      obtain ⟨cT12, fT12⟩ := (T11.drew.ext hx12).facts
      repeat (first | (refine E.plan_pure (by simp only [List.getElem?_toArray, List.getElem?_cons_succ, List.getElem?_cons_zero]; rfl) (by rfl) (fun K hK => ?_); (go_simp; try go_bits; try go_simp); refine hK _ ?_; clear hK K) | (refine E.plan_load (by simp only [List.getElem?_toArray, List.getElem?_cons_succ, List.getElem?_cons_zero]; rfl) (by rfl) (by rfl) (fun K hK => ?_); (go_simp; try go_bits; try go_simp); refine hK _ ?_; clear hK K) | (refine E.plan_skip (E.Ext.refl _) (by simp only [List.getElem?_toArray, List.getElem?_cons_succ, List.getElem?_cons_zero]; rfl) (by rfl) (fun K hK => ?_); (go_simp; try go_bits; try go_simp); refine hK _ ?_; clear hK K))
      refine E.plan_eff (by simp only [List.getElem?_toArray, List.getElem?_cons_succ, List.getElem?_cons_zero]; rfl) (by rfl) (fun K hK => ?_); (go_simp; try go_bits)
      refine (refUntil_any rb KK l2 xp _ hB12.ref hl2).mono ?_; rintro e w13 ⟨rfl, hx13⟩; refine hK _ _ hx13 ?_; clear hK K
      have hB13 := hB12.ext hx13
      obtain ⟨cT13, fT13⟩ := ((T11.drew.ext hx12).ext hx13).facts
      repeat (first | (refine E.plan_pure (by simp only [List.getElem?_toArray, List.getElem?_cons_succ, List.getElem?_cons_zero]; rfl) (by rfl) (fun K hK => ?_); (go_simp; try go_bits; try go_simp); refine hK _ ?_; clear hK K) | (refine E.plan_load (by simp only [List.getElem?_toArray, List.getElem?_cons_succ, List.getElem?_cons_zero]; rfl) (by rfl) (by rfl) (fun K hK => ?_); (go_simp; try go_bits; try go_simp); refine hK _ ?_; clear hK K) | (refine E.plan_skip (E.Ext.refl _) (by simp only [List.getElem?_toArray, List.getElem?_cons_succ, List.getElem?_cons_zero]; rfl) (by rfl) (fun K hK => ?_); (go_simp; try go_bits; try go_simp); refine hK _ ?_; clear hK K))
      refine E.plan_eff (by simp only [List.getElem?_toArray, List.getElem?_cons_succ, List.getElem?_cons_zero]; rfl) (by rfl) (fun K hK => ?_); (go_simp; try go_bits)
      refine (twin_any b pb ⟨KK, first, l2⟩ xe.sensor xp _ hB13.ring).mono ?_; rintro e w14 ⟨rfl, hx14⟩; refine hK _ _ hx14 ?_; clear hK K
      have hB14 := hB13.ext hx14
      obtain ⟨cT14, fT14⟩ := (((T11.drew.ext hx12).ext hx13).ext hx14).facts
      repeat (first | (refine E.plan_pure (by simp only [List.getElem?_toArray, List.getElem?_cons_succ, List.getElem?_cons_zero]; rfl) (by rfl) (fun K hK => ?_); (go_simp; try go_bits; try go_simp); refine hK _ ?_; clear hK K) | (refine E.plan_load (by simp only [List.getElem?_toArray, List.getElem?_cons_succ, List.getElem?_cons_zero]; rfl) (by rfl) (by rfl) (fun K hK => ?_); (go_simp; try go_bits; try go_simp); refine hK _ ?_; clear hK K) | (refine E.plan_skip (E.Ext.refl _) (by simp only [List.getElem?_toArray, List.getElem?_cons_succ, List.getElem?_cons_zero]; rfl) (by rfl) (fun K hK => ?_); (go_simp; try go_bits; try go_simp); refine hK _ ?_; clear hK K))
      refine E.plan_eff (by simp only [List.getElem?_toArray, List.getElem?_cons_succ, List.getElem?_cons_zero]; rfl) (by rfl) (fun K hK => ?_); (go_simp; try go_bits)
      refine (refTwin_any rb KK l2 xe.sensor xp _ hB14.ref hl2).mono ?_; rintro e w15 ⟨rfl, hx15⟩; refine hK _ _ hx15 ?_; clear hK K
      repeat (first | (refine E.plan_pure (by simp only [List.getElem?_toArray, List.getElem?_cons_succ, List.getElem?_cons_zero]; rfl) (by rfl) (fun K hK => ?_); (go_simp; try go_bits; try go_simp); refine hK _ ?_; clear hK K) | (refine E.plan_load (by simp only [List.getElem?_toArray, List.getElem?_cons_succ, List.getElem?_cons_zero]; rfl) (by rfl) (by rfl) (fun K hK => ?_); (go_simp; try go_bits; try go_simp); refine hK _ ?_; clear hK K) | (refine E.plan_skip (E.Ext.refl _) (by simp only [List.getElem?_toArray, List.getElem?_cons_succ, List.getElem?_cons_zero]; rfl) (by rfl) (fun K hK => ?_); (go_simp; try go_bits; try go_simp); refine hK _ ?_; clear hK K))
      refine E.plan_nil ?_
      go_wp2_with fail
      go_ret
      exact ⟨rfl, first, l2, hB14.ext hx15, hW11.trans ((((E.Ext.drew _).trans hx12).trans hx13).trans (hx14.trans hx15))⟩
  | true =>
    cases l2 with
    | nil =>
      go_wp2_with fail
      refine (drop_no (F := fun _ => True) b pb KK first _ hB6.ring).mono ?_
      rintro e wd ⟨rfl, hxd⟩
      have D1 := E.Blk.new wd 30 #[.int .i64 0, .int .i64 0, .int .i64 0, .bool false, .slice none 0 0]
      have Td := (T6.ext hxd).alloc (.cells #[.int .i64 0, .int .i64 0, .int .i64 0, .bool false, .slice none 0 0] 30)
      clear cT fT
      obtain ⟨cT, fT⟩ := Td.facts
      go_wp2_with fail
      refine (refDrop_no rb KK _ ((hB6.ref.ext hxd).ext (E.Ext.alloc _ _))).mono ?_
      rintro e wq ⟨rfl, hxq⟩
      have D2 := (D1.ext hxq).alloc (.cells #[.int .i64 0, .int .i64 0, .int .i64 0, .bool false, .slice none 0 0] 30)
      have Q2 := E.Blk.new wq 30 #[.int .i64 0, .int .i64 0, .int .i64 0, .bool false, .slice none 0 0]
      obtain ⟨cD, fD⟩ := D2.facts
      obtain ⟨cQ, fQ⟩ := Q2.facts
      have Tq := (Td.ext hxq).alloc (.cells #[.int .i64 0, .int .i64 0, .int .i64 0, .bool false, .slice none 0 0] 30)
      clear cT fT
      obtain ⟨cT, fT⟩ := Tq.facts
      go_wp2_with fail
      refine (sameEntry_any bareE bareE none none 0 0 _ (Sl.nil _ _) (Sl.nil _ _)).mono ?_
      rintro e ws ⟨rfl, hxs⟩
      have hxa := (((hxd.trans (E.Ext.alloc wd (.cells #[.int .i64 0, .int .i64 0, .int .i64 0, .bool false, .slice none 0 0] 30))).trans hxq).trans (E.Ext.alloc wq (.cells #[.int .i64 0, .int .i64 0, .int .i64 0, .bool false, .slice none 0 0] 30))).trans hxs
      have hBa := hB6.ext hxa
      have Ta := T6.ext hxa
      have hWa := hW6.trans hxa
      clear cT fT cD fD cQ fQ hB6 T6 hW6 Td D1 D2 Q2 Tq hxd hxq hxs hxa
      obtain ⟨cT, fT⟩ := Ta.facts
      go_wp2_with fail
      clear cT fT
      generalize hl2e : ([] : List Entry) = l2 at *
      have hl2 : l2.length ≤ 200 := by
        have h1 := hBa.ring.ok.many
        have h2 := hBa.ring.ok.most
        simp only at h1 h2
        omega
      obtain ⟨cTa, fTa⟩ := Ta.facts
      by_cases hp : 0 ≤ xp ∧ xp < l2.length
      · obtain ⟨i, rfl⟩ : ∃ i : Nat, xp = i := ⟨xp.toNat, by omega⟩
        have hil : i < l2.length := by omega
        obtain ⟨y, hy⟩ : ∃ y, l2[i]? = some y := ⟨l2[i], List.getElem?_eq_getElem hil⟩
        have HY := Lib.hid hy
        have hyd := hBa.short y (List.mem_of_getElem? hy)
        clear hy hp
        go_wp2_with fail
        refine (get_yes b pb ⟨KK, first, l2⟩ i y _ hBa.ring HY.out (by omega)).mono ?_
        rintro e w8 ⟨Ap, cp, rfl, hx8, hop⟩
        dsimp only [Entry.val]
        clear cTa fTa
        have T8 := Ta.ext hx8
        have P8 := E.Blk.new w8 30 #[.int .i64 y.stamp, .int .i64 y.sensor, .int .i64 y.seq, .bool y.input, .slice Ap y.data.length cp]
        have hop8 := own_ext hop (E.Ext.alloc w8 (.cells #[.int .i64 y.stamp, .int .i64 y.sensor, .int .i64 y.seq, .bool y.input, .slice Ap y.data.length cp] 30))
        obtain ⟨cT8, fT8⟩ := (T8.alloc (.cells #[.int .i64 y.stamp, .int .i64 y.sensor, .int .i64 y.seq, .bool y.input, .slice Ap y.data.length cp] 30)).facts
        go_wp2_with fail
        refine (refGet_yes rb KK l2 i y _ ((hBa.ref.ext hx8).ext (E.Ext.alloc _ _)) HY.out (by omega)).mono ?_
        rintro e w9 ⟨Aq, cq, rfl, hx9, hoq⟩
        try dsimp only [Entry.val]
        have hP9 := P8.ext hx9
        have P9 := hP9.alloc (.cells #[.int .i64 y.stamp, .int .i64 y.sensor, .int .i64 y.seq, .bool y.input, .slice Aq y.data.length cq] 30)
        have Q9 := E.Blk.new w9 30 #[.int .i64 y.stamp, .int .i64 y.sensor, .int .i64 y.seq, .bool y.input, .slice Aq y.data.length cq]
        have T9 := ((T8.alloc (.cells #[.int .i64 y.stamp, .int .i64 y.sensor, .int .i64 y.seq, .bool y.input, .slice Ap y.data.length cp] 30)).ext hx9).alloc (.cells #[.int .i64 y.stamp, .int .i64 y.sensor, .int .i64 y.seq, .bool y.input, .slice Aq y.data.length cq] 30)
        have hop9 := own_ext (own_ext hop8 hx9) (E.Ext.alloc w9 (.cells #[.int .i64 y.stamp, .int .i64 y.sensor, .int .i64 y.seq, .bool y.input, .slice Aq y.data.length cq] 30))
        obtain ⟨cP9, fP9⟩ := P9.facts
        obtain ⟨cQ9, fQ9⟩ := Q9.facts
        go_wp2_with fail
        refine (sameEntry_any y y Ap Aq cp cq _ (own_sl' hop9) ((own_sl' hoq).ext (E.Ext.alloc _ _))).mono ?_
        rintro e w10 ⟨rfl, hx10⟩
        have P10 := P9.ext hx10
        have T10 := T9.ext hx10
        obtain ⟨cP10, fP10⟩ := P10.facts
        go_wp2_with fail
        have hop10 := own_ext hop9 hx10
        refine (overInts_any _ _ _ _ _ _ hop10 (by omega)).mono ?_
        rintro e w11 ⟨rfl, hs11⟩
        have hxa10 := (((hx8.trans (E.Ext.alloc w8 (.cells #[.int .i64 y.stamp, .int .i64 y.sensor, .int .i64 y.seq, .bool y.input, .slice Ap y.data.length cp] 30))).trans hx9).trans (E.Ext.alloc w9 (.cells #[.int .i64 y.stamp, .int .i64 y.sensor, .int .i64 y.seq, .bool y.input, .slice Aq y.data.length cq] 30))).trans hx10
        have hS11 : ∀ k, (Value.slice _ _ _).ownBlock = some k → D3 w10 k ∧ ws.heap.size ≤ k := fun k hk => ⟨own_D3 hop10 k hk, by have := (hop10.lt k hk).1; have := hx8.size; simp at *; omega⟩
        have hB11 := both_over hBa hxa10 hS11 hs11
        have T11 := T10.extS hs11 (fun e => by
          obtain ⟨cs, h'⟩ := own_D3 hop10 _ e
          exact h'.ne T10 (by decide) rfl)
        have hW11 := E.Ext.thenS (hWa.trans hxa10) hs11 (fun k hk hs => by
          have := (hS11 k hs).2
          have := hWa.size
          omega)
        clear cT8 fT8 cP9 fP9 cQ9 fQ9 cP10 fP10
        obtain ⟨cT11, fT11⟩ := T11.facts
        go_wp2_with fail
        refine E.wp_plan E.ext_pre 1000000 [(0, true), (1, true), (2, true), (3, true), (4, true), (6, true), (7, true), (8, true), (5, false), (9, false), (10, true), (11, true), (12, true), (13, true), (14, true), (15, true), (16, true), (17, true), (18, true), (20, true), (21, true), (22, true), (23, true), (24, true), (25, true), (19, false), (26, false), (27, true), (28, true), (29, true)] (by kernel_rfl) (by kernel_rfl) ?_
        repeat (first | (refine E.plan_pure (by simp only [List.getElem?_toArray, List.getElem?_cons_succ, List.getElem?_cons_zero]; rfl) (by rfl) (fun K hK => ?_); (go_simp; try go_bits; try go_simp); refine hK _ ?_; clear hK K) | (refine E.plan_load (by simp only [List.getElem?_toArray, List.getElem?_cons_succ, List.getElem?_cons_zero]; rfl) (by rfl) (by rfl) (fun K hK => ?_); (go_simp; try go_bits; try go_simp); refine hK _ ?_; clear hK K) | (refine E.plan_skip (E.Ext.refl _) (by simp only [List.getElem?_toArray, List.getElem?_cons_succ, List.getElem?_cons_zero]; rfl) (by rfl) (fun K hK => ?_); (go_simp; try go_bits; try go_simp); refine hK _ ?_; clear hK K))
        refine E.plan_eff (by simp only [List.getElem?_toArray, List.getElem?_cons_succ, List.getElem?_cons_zero]; rfl) (by rfl) (fun K hK => ?_); (go_simp; try go_bits)
        refine (until_any b pb ⟨KK, first, l2⟩ (i : Int) _ (hB11.ring.ext (E.Ext.drew _)) hB11.sorted).mono ?_; rintro e w12 ⟨rfl, hx12⟩; refine hK _ _ hx12 ?_; clear hK K
        have hB12 := (hB11.ext (E.Ext.drew _)).ext hx12
        obtain ⟨cT12, fT12⟩ := (T11.drew.ext hx12).facts
        repeat (first | (refine E.plan_pure (by simp only [List.getElem?_toArray, List.getElem?_cons_succ, List.getElem?_cons_zero]; rfl) (by rfl) (fun K hK => ?_); (go_simp; try go_bits; try go_simp); refine hK _ ?_; clear hK K) | (refine E.plan_load (by simp only [List.getElem?_toArray, List.getElem?_cons_succ, List.getElem?_cons_zero]; rfl) (by rfl) (by rfl) (fun K hK => ?_); (go_simp; try go_bits; try go_simp); refine hK _ ?_; clear hK K) | (refine E.plan_skip (E.Ext.refl _) (by simp only [List.getElem?_toArray, List.getElem?_cons_succ, List.getElem?_cons_zero]; rfl) (by rfl) (fun K hK => ?_); (go_simp; try go_bits; try go_simp); refine hK _ ?_; clear hK K))
        refine E.plan_eff (by simp only [List.getElem?_toArray, List.getElem?_cons_succ, List.getElem?_cons_zero]; rfl) (by rfl) (fun K hK => ?_); (go_simp; try go_bits)
        refine (refUntil_any rb KK l2 (i : Int) _ hB12.ref hl2).mono ?_; rintro e w13 ⟨rfl, hx13⟩; refine hK _ _ hx13 ?_; clear hK K
        have hB13 := hB12.ext hx13
        obtain ⟨cT13, fT13⟩ := ((T11.drew.ext hx12).ext hx13).facts
        repeat (first | (refine E.plan_pure (by simp only [List.getElem?_toArray, List.getElem?_cons_succ, List.getElem?_cons_zero]; rfl) (by rfl) (fun K hK => ?_); (go_simp; try go_bits; try go_simp); refine hK _ ?_; clear hK K) | (refine E.plan_load (by simp only [List.getElem?_toArray, List.getElem?_cons_succ, List.getElem?_cons_zero]; rfl) (by rfl) (by rfl) (fun K hK => ?_); (go_simp; try go_bits; try go_simp); refine hK _ ?_; clear hK K) | (refine E.plan_skip (E.Ext.refl _) (by simp only [List.getElem?_toArray, List.getElem?_cons_succ, List.getElem?_cons_zero]; rfl) (by rfl) (fun K hK => ?_); (go_simp; try go_bits; try go_simp); refine hK _ ?_; clear hK K))
        refine E.plan_eff (by simp only [List.getElem?_toArray, List.getElem?_cons_succ, List.getElem?_cons_zero]; rfl) (by rfl) (fun K hK => ?_); (go_simp; try go_bits)
        refine (twin_any b pb ⟨KK, first, l2⟩ xe.sensor (i : Int) _ hB13.ring).mono ?_; rintro e w14 ⟨rfl, hx14⟩; refine hK _ _ hx14 ?_; clear hK K
        have hB14 := hB13.ext hx14
        obtain ⟨cT14, fT14⟩ := (((T11.drew.ext hx12).ext hx13).ext hx14).facts
        repeat (first | (refine E.plan_pure (by simp only [List.getElem?_toArray, List.getElem?_cons_succ, List.getElem?_cons_zero]; rfl) (by rfl) (fun K hK => ?_); (go_simp; try go_bits; try go_simp); refine hK _ ?_; clear hK K) | (refine E.plan_load (by simp only [List.getElem?_toArray, List.getElem?_cons_succ, List.getElem?_cons_zero]; rfl) (by rfl) (by rfl) (fun K hK => ?_); (go_simp; try go_bits; try go_simp); refine hK _ ?_; clear hK K) | (refine E.plan_skip (E.Ext.refl _) (by simp only [List.getElem?_toArray, List.getElem?_cons_succ, List.getElem?_cons_zero]; rfl) (by rfl) (fun K hK => ?_); (go_simp; try go_bits; try go_simp); refine hK _ ?_; clear hK K))
        refine E.plan_eff (by simp only [List.getElem?_toArray, List.getElem?_cons_succ, List.getElem?_cons_zero]; rfl) (by rfl) (fun K hK => ?_); (go_simp; try go_bits)
        refine (refTwin_any rb KK l2 xe.sensor (i : Int) _ hB14.ref hl2).mono ?_; rintro e w15 ⟨rfl, hx15⟩; refine hK _ _ hx15 ?_; clear hK K
        repeat (first | (refine E.plan_pure (by simp only [List.getElem?_toArray, List.getElem?_cons_succ, List.getElem?_cons_zero]; rfl) (by rfl) (fun K hK => ?_); (go_simp; try go_bits; try go_simp); refine hK _ ?_; clear hK K) | (refine E.plan_load (by simp only [List.getElem?_toArray, List.getElem?_cons_succ, List.getElem?_cons_zero]; rfl) (by rfl) (by rfl) (fun K hK => ?_); (go_simp; try go_bits; try go_simp); refine hK _ ?_; clear hK K) | (refine E.plan_skip (E.Ext.refl _) (by simp only [List.getElem?_toArray, List.getElem?_cons_succ, List.getElem?_cons_zero]; rfl) (by rfl) (fun K hK => ?_); (go_simp; try go_bits; try go_simp); refine hK _ ?_; clear hK K))
        refine E.plan_nil ?_
        go_wp2_with fail
        go_ret
        exact ⟨rfl, first, l2, hB14.ext hx15, hW11.trans ((((E.Ext.drew _).trans hx12).trans hx13).trans (hx14.trans hx15))⟩
      · have hp' : xp < 0 ∨ (l2.length : Int) ≤ xp := by omega
        clear hp
        have HP := Lib.hid hp'
        clear hp'
        go_wp2_with fail
        refine (get_no b pb ⟨KK, first, l2⟩ xp _ hBa.ring HP.out).mono ?_
        rintro e w8 ⟨rfl, hx8⟩
        have hop : w8.ownsRow ws.heap.size 3 1 (.slice none 0 0) 0 [] := ⟨rfl, Or.inl ⟨rfl, rfl⟩⟩
        clear cTa fTa
        have T8 := Ta.ext hx8
        have P8 := E.Blk.new w8 30 #[.int .i64 0, .int .i64 0, .int .i64 0, .bool false, .slice none 0 0]
        have hop8 := own_ext hop (E.Ext.alloc w8 (.cells #[.int .i64 0, .int .i64 0, .int .i64 0, .bool false, .slice none 0 0] 30))
        obtain ⟨cT8, fT8⟩ := (T8.alloc (.cells #[.int .i64 0, .int .i64 0, .int .i64 0, .bool false, .slice none 0 0] 30)).facts
        go_wp2_with fail
        refine (refGet_no rb KK l2 xp _ ((hBa.ref.ext hx8).ext (E.Ext.alloc _ _)) HP.out).mono ?_
        rintro e w9 ⟨rfl, hx9⟩
        try dsimp only [Entry.val]
        have hP9 := P8.ext hx9
        have P9 := hP9.alloc (.cells #[.int .i64 0, .int .i64 0, .int .i64 0, .bool false, .slice none 0 0] 30)
        have Q9 := E.Blk.new w9 30 #[.int .i64 0, .int .i64 0, .int .i64 0, .bool false, .slice none 0 0]
        have T9 := ((T8.alloc (.cells #[.int .i64 0, .int .i64 0, .int .i64 0, .bool false, .slice none 0 0] 30)).ext hx9).alloc (.cells #[.int .i64 0, .int .i64 0, .int .i64 0, .bool false, .slice none 0 0] 30)
        have hop9 := own_ext (own_ext hop8 hx9) (E.Ext.alloc w9 (.cells #[.int .i64 0, .int .i64 0, .int .i64 0, .bool false, .slice none 0 0] 30))
        obtain ⟨cP9, fP9⟩ := P9.facts
        obtain ⟨cQ9, fQ9⟩ := Q9.facts
        go_wp2_with fail
        refine (sameEntry_any bareE bareE none none 0 0 _ (Sl.nil _ _) (Sl.nil _ _)).mono ?_
        rintro e w10 ⟨rfl, hx10⟩
        have P10 := P9.ext hx10
        have T10 := T9.ext hx10
        obtain ⟨cP10, fP10⟩ := P10.facts
        go_wp2_with fail
        have hop10 := own_ext hop9 hx10
        refine (overInts_any _ _ _ _ _ _ hop10 (by omega)).mono ?_
        rintro e w11 ⟨rfl, hs11⟩
        have hxa10 := (((hx8.trans (E.Ext.alloc w8 (.cells #[.int .i64 0, .int .i64 0, .int .i64 0, .bool false, .slice none 0 0] 30))).trans hx9).trans (E.Ext.alloc w9 (.cells #[.int .i64 0, .int .i64 0, .int .i64 0, .bool false, .slice none 0 0] 30))).trans hx10
        have hS11 : ∀ k, (Value.slice _ _ _).ownBlock = some k → D3 w10 k ∧ ws.heap.size ≤ k := fun k hk => ⟨own_D3 hop10 k hk, by have := (hop10.lt k hk).1; have := hx8.size; simp at *; omega⟩
        have hB11 := both_over hBa hxa10 hS11 hs11
        have T11 := T10.extS hs11 (fun e => by
          obtain ⟨cs, h'⟩ := own_D3 hop10 _ e
          exact h'.ne T10 (by decide) rfl)
        have hW11 := E.Ext.thenS (hWa.trans hxa10) hs11 (fun k hk hs => by
          have := (hS11 k hs).2
          have := hWa.size
          omega)
        clear cT8 fT8 cP9 fP9 cQ9 fQ9 cP10 fP10
        obtain ⟨cT11, fT11⟩ := T11.facts
        go_wp2_with fail
        refine E.wp_plan E.ext_pre 1000000 [(0, true), (1, true), (2, true), (3, true), (4, true), (6, true), (7, true), (8, true), (5, false), (9, false), (10, true), (11, true), (12, true), (13, true), (14, true), (15, true), (16, true), (17, true), (18, true), (20, true), (21, true), (22, true), (23, true), (24, true), (25, true), (19, false), (26, false), (27, true), (28, true), (29, true)] (by kernel_rfl) (by kernel_rfl) ?_
        repeat (first | (refine E.plan_pure (by simp only [List.getElem?_toArray, List.getElem?_cons_succ, List.getElem?_cons_zero]; rfl) (by rfl) (fun K hK => ?_); (go_simp; try go_bits; try go_simp); refine hK _ ?_; clear hK K) | (refine E.plan_load (by simp only [List.getElem?_toArray, List.getElem?_cons_succ, List.getElem?_cons_zero]; rfl) (by rfl) (by rfl) (fun K hK => ?_); (go_simp; try go_bits; try go_simp); refine hK _ ?_; clear hK K) | (refine E.plan_skip (E.Ext.refl _) (by simp only [List.getElem?_toArray, List.getElem?_cons_succ, List.getElem?_cons_zero]; rfl) (by rfl) (fun K hK => ?_); (go_simp; try go_bits; try go_simp); refine hK _ ?_; clear hK K))
        refine E.plan_eff (by simp only [List.getElem?_toArray, List.getElem?_cons_succ, List.getElem?_cons_zero]; rfl) (by rfl) (fun K hK => ?_); (go_simp; try go_bits)
        refine (until_any b pb ⟨KK, first, l2⟩ xp _ (hB11.ring.ext (E.Ext.drew _)) hB11.sorted).mono ?_; rintro e w12 ⟨rfl, hx12⟩; refine hK _ _ hx12 ?_; clear hK K
        have hB12 := (hB11.ext (E.Ext.drew _)).ext hx12
        obtain ⟨cT12, fT12⟩ := (T11.drew.ext hx12).facts
        repeat (first | (refine E.plan_pure (by simp only [List.getElem?_toArray, List.getElem?_cons_succ, List.getElem?_cons_zero]; rfl) (by rfl) (fun K hK => ?_); (go_simp; try go_bits; try go_simp); refine hK _ ?_; clear hK K) | (refine E.plan_load (by simp only [List.getElem?_toArray, List.getElem?_cons_succ, List.getElem?_cons_zero]; rfl) (by rfl) (by rfl) (fun K hK => ?_); (go_simp; try go_bits; try go_simp); refine hK _ ?_; clear hK K) | (refine E.plan_skip (E.Ext.refl _) (by simp only [List.getElem?_toArray, List.getElem?_cons_succ, List.getElem?_cons_zero]; rfl) (by rfl) (fun K hK => ?_); (go_simp; try go_bits; try go_simp); refine hK _ ?_; clear hK K))
        refine E.plan_eff (by simp only [List.getElem?_toArray, List.getElem?_cons_succ, List.getElem?_cons_zero]; rfl) (by rfl) (fun K hK => ?_); (go_simp; try go_bits)
        refine (refUntil_any rb KK l2 xp _ hB12.ref hl2).mono ?_; rintro e w13 ⟨rfl, hx13⟩; refine hK _ _ hx13 ?_; clear hK K
        have hB13 := hB12.ext hx13
        obtain ⟨cT13, fT13⟩ := ((T11.drew.ext hx12).ext hx13).facts
        repeat (first | (refine E.plan_pure (by simp only [List.getElem?_toArray, List.getElem?_cons_succ, List.getElem?_cons_zero]; rfl) (by rfl) (fun K hK => ?_); (go_simp; try go_bits; try go_simp); refine hK _ ?_; clear hK K) | (refine E.plan_load (by simp only [List.getElem?_toArray, List.getElem?_cons_succ, List.getElem?_cons_zero]; rfl) (by rfl) (by rfl) (fun K hK => ?_); (go_simp; try go_bits; try go_simp); refine hK _ ?_; clear hK K) | (refine E.plan_skip (E.Ext.refl _) (by simp only [List.getElem?_toArray, List.getElem?_cons_succ, List.getElem?_cons_zero]; rfl) (by rfl) (fun K hK => ?_); (go_simp; try go_bits; try go_simp); refine hK _ ?_; clear hK K))
        refine E.plan_eff (by simp only [List.getElem?_toArray, List.getElem?_cons_succ, List.getElem?_cons_zero]; rfl) (by rfl) (fun K hK => ?_); (go_simp; try go_bits)
        refine (twin_any b pb ⟨KK, first, l2⟩ xe.sensor xp _ hB13.ring).mono ?_; rintro e w14 ⟨rfl, hx14⟩; refine hK _ _ hx14 ?_; clear hK K
        have hB14 := hB13.ext hx14
        obtain ⟨cT14, fT14⟩ := (((T11.drew.ext hx12).ext hx13).ext hx14).facts
        repeat (first | (refine E.plan_pure (by simp only [List.getElem?_toArray, List.getElem?_cons_succ, List.getElem?_cons_zero]; rfl) (by rfl) (fun K hK => ?_); (go_simp; try go_bits; try go_simp); refine hK _ ?_; clear hK K) | (refine E.plan_load (by simp only [List.getElem?_toArray, List.getElem?_cons_succ, List.getElem?_cons_zero]; rfl) (by rfl) (by rfl) (fun K hK => ?_); (go_simp; try go_bits; try go_simp); refine hK _ ?_; clear hK K) | (refine E.plan_skip (E.Ext.refl _) (by simp only [List.getElem?_toArray, List.getElem?_cons_succ, List.getElem?_cons_zero]; rfl) (by rfl) (fun K hK => ?_); (go_simp; try go_bits; try go_simp); refine hK _ ?_; clear hK K))
        refine E.plan_eff (by simp only [List.getElem?_toArray, List.getElem?_cons_succ, List.getElem?_cons_zero]; rfl) (by rfl) (fun K hK => ?_); (go_simp; try go_bits)
        refine (refTwin_any rb KK l2 xe.sensor xp _ hB14.ref hl2).mono ?_; rintro e w15 ⟨rfl, hx15⟩; refine hK _ _ hx15 ?_; clear hK K
        repeat (first | (refine E.plan_pure (by simp only [List.getElem?_toArray, List.getElem?_cons_succ, List.getElem?_cons_zero]; rfl) (by rfl) (fun K hK => ?_); (go_simp; try go_bits; try go_simp); refine hK _ ?_; clear hK K) | (refine E.plan_load (by simp only [List.getElem?_toArray, List.getElem?_cons_succ, List.getElem?_cons_zero]; rfl) (by rfl) (by rfl) (fun K hK => ?_); (go_simp; try go_bits; try go_simp); refine hK _ ?_; clear hK K) | (refine E.plan_skip (E.Ext.refl _) (by simp only [List.getElem?_toArray, List.getElem?_cons_succ, List.getElem?_cons_zero]; rfl) (by rfl) (fun K hK => ?_); (go_simp; try go_bits; try go_simp); refine hK _ ?_; clear hK K))
        refine E.plan_nil ?_
        go_wp2_with fail
        go_ret
        exact ⟨rfl, first, l2, hB14.ext hx15, hW11.trans ((((E.Ext.drew _).trans hx12).trans hx13).trans (hx14.trans hx15))⟩
    | cons y m =>
      have hyd := hB6.short y (by simp)
      obtain ⟨⟨k1, hb6⟩, ⟨k2, hpb6⟩⟩ := ring_blks hB6.ring
      obtain ⟨k3, hrb6⟩ := ref_blk hB6.ref
      have hT1 := Lib.hid (show ¬ w.heap.size = rb from fun e => T6.ne hrb6 (by decide) e)
      go_wp2_with fail
      refine (drop_yes (F := fun _ => True) b pb KK first y m _ hB6.ring (by omega)).mono ?_
      rintro e wd ⟨Ap, cp, rfl, hsd, hop, hrd⟩
      dsimp only [Entry.val]
      have hwd := hsd.size
      have hrm := ref_mid hB6 (E.Ext.refl _) hsd
      have Td0 := T6.extS hsd (fun e => by
        rcases e with e | e
        · exact T6.ne hb6 (by decide) e
        · exact T6.ne hpb6 (by decide) e)
      have hWd := E.Ext.thenS hW6 hsd HF.out
      have hxp := E.Ext.alloc wd (.cells #[.int .i64 y.stamp, .int .i64 y.sensor, .int .i64 y.seq, .bool y.input, .slice Ap y.data.length cp] 30)
      have D1 := E.Blk.new wd 30 #[.int .i64 y.stamp, .int .i64 y.sensor, .int .i64 y.seq, .bool y.input, .slice Ap y.data.length cp]
      have Td := Td0.ext hxp
      have hop1 := own_ext hop hxp
      clear cT fT
      obtain ⟨cT, fT⟩ := Td.facts
      go_wp2_with fail
      refine (refDrop_yes (F := D3 w6) rb KK y m _ (hrm.ext hxp) (by omega) (fun k hk e => by
        obtain ⟨cs, hk⟩ := hk
        exact hk.ne hrb6 (by decide) e)).mono ?_
      rintro e wq ⟨Aq, cq, rfl, hsq, hoq, hrq⟩
      dsimp only [Entry.val]
      obtain ⟨k4, hrbd⟩ := ref_blk (hrm.ext hxp)
      have hxq := E.Ext.alloc wq (.cells #[.int .i64 y.stamp, .int .i64 y.sensor, .int .i64 y.seq, .bool y.input, .slice Aq y.data.length cq] 30)
      have D2 := (D1.extS hsq (fun e => D1.ne hrbd (by decide) e)).ext hxq
      have Q2 := E.Blk.new wq 30 #[.int .i64 y.stamp, .int .i64 y.sensor, .int .i64 y.seq, .bool y.input, .slice Aq y.data.length cq]
      have hop2 := own_ext (own_extS hop1 hsq (fun g cs hg e => hg.ne hrbd (by decide) e)) hxq
      have hoq2 := own_ext hoq hxq
      obtain ⟨cD, fD⟩ := D2.facts
      obtain ⟨cQ, fQ⟩ := Q2.facts
      have Tq := (Td.extS hsq (fun e => Td.ne hrbd (by decide) e)).ext hxq
      have hWq := E.Ext.thenS (hWd.trans hxp) hsq (fun k hk e => by have e' : k = rb := e; omega)
      clear cT fT
      obtain ⟨cT, fT⟩ := Tq.facts
      go_wp2_with fail
      refine (sameEntry_any y y Ap Aq cp cq _ (own_sl' hop2) (own_sl' hoq2)).mono ?_
      rintro e ws ⟨rfl, hxs⟩
      have hBa := (both_drop hB6 hrd hsd hxp hrq hsq).ext (hxq.trans hxs)
      have Ta := Tq.ext hxs
      have hWa := hWq.trans (hxq.trans hxs)
      clear cT fT cD fD cQ fQ hB6 T6 hW6 Td D1 D2 Q2 Tq hxq hxs hsq hsd hxp hrm hop hop1 hop2 hoq hoq2 hrd hrq Td0 hWd hWq hrb6 hb6 hpb6 hrbd hyd
      obtain ⟨cT, fT⟩ := Ta.facts
      go_wp2_with fail
      clear cT fT
      generalize hf2 : (first + 1) % KK = f2 at *
      clear hf2
      have hl2 : m.length ≤ 200 := by
        have h1 := hBa.ring.ok.many
        have h2 := hBa.ring.ok.most
        simp only at h1 h2
        omega
      obtain ⟨cTa, fTa⟩ := Ta.facts
      by_cases hp : 0 ≤ xp ∧ xp < m.length
      · obtain ⟨i, rfl⟩ : ∃ i : Nat, xp = i := ⟨xp.toNat, by omega⟩
        have hil : i < m.length := by omega
        obtain ⟨y, hy⟩ : ∃ y, m[i]? = some y := ⟨m[i], List.getElem?_eq_getElem hil⟩
        have HY := Lib.hid hy
        have hyd := hBa.short y (List.mem_of_getElem? hy)
        clear hy hp
        go_wp2_with fail
        refine (get_yes b pb ⟨KK, f2, m⟩ i y _ hBa.ring HY.out (by omega)).mono ?_
        rintro e w8 ⟨Ap, cp, rfl, hx8, hop⟩
        dsimp only [Entry.val]
        clear cTa fTa
        have T8 := Ta.ext hx8
        have P8 := E.Blk.new w8 30 #[.int .i64 y.stamp, .int .i64 y.sensor, .int .i64 y.seq, .bool y.input, .slice Ap y.data.length cp]
        have hop8 := own_ext hop (E.Ext.alloc w8 (.cells #[.int .i64 y.stamp, .int .i64 y.sensor, .int .i64 y.seq, .bool y.input, .slice Ap y.data.length cp] 30))
        obtain ⟨cT8, fT8⟩ := (T8.alloc (.cells #[.int .i64 y.stamp, .int .i64 y.sensor, .int .i64 y.seq, .bool y.input, .slice Ap y.data.length cp] 30)).facts
        go_wp2_with fail
        refine (refGet_yes rb KK m i y _ ((hBa.ref.ext hx8).ext (E.Ext.alloc _ _)) HY.out (by omega)).mono ?_
        rintro e w9 ⟨Aq, cq, rfl, hx9, hoq⟩
        try dsimp only [Entry.val]
        have hP9 := P8.ext hx9
        have P9 := hP9.alloc (.cells #[.int .i64 y.stamp, .int .i64 y.sensor, .int .i64 y.seq, .bool y.input, .slice Aq y.data.length cq] 30)
        have Q9 := E.Blk.new w9 30 #[.int .i64 y.stamp, .int .i64 y.sensor, .int .i64 y.seq, .bool y.input, .slice Aq y.data.length cq]
        have T9 := ((T8.alloc (.cells #[.int .i64 y.stamp, .int .i64 y.sensor, .int .i64 y.seq, .bool y.input, .slice Ap y.data.length cp] 30)).ext hx9).alloc (.cells #[.int .i64 y.stamp, .int .i64 y.sensor, .int .i64 y.seq, .bool y.input, .slice Aq y.data.length cq] 30)
        have hop9 := own_ext (own_ext hop8 hx9) (E.Ext.alloc w9 (.cells #[.int .i64 y.stamp, .int .i64 y.sensor, .int .i64 y.seq, .bool y.input, .slice Aq y.data.length cq] 30))
        obtain ⟨cP9, fP9⟩ := P9.facts
        obtain ⟨cQ9, fQ9⟩ := Q9.facts
        go_wp2_with fail
        refine (sameEntry_any y y Ap Aq cp cq _ (own_sl' hop9) ((own_sl' hoq).ext (E.Ext.alloc _ _))).mono ?_
        rintro e w10 ⟨rfl, hx10⟩
        have P10 := P9.ext hx10
        have T10 := T9.ext hx10
        obtain ⟨cP10, fP10⟩ := P10.facts
        go_wp2_with fail
        have hop10 := own_ext hop9 hx10
        refine (overInts_any _ _ _ _ _ _ hop10 (by omega)).mono ?_
        rintro e w11 ⟨rfl, hs11⟩
        have hxa10 := (((hx8.trans (E.Ext.alloc w8 (.cells #[.int .i64 y.stamp, .int .i64 y.sensor, .int .i64 y.seq, .bool y.input, .slice Ap y.data.length cp] 30))).trans hx9).trans (E.Ext.alloc w9 (.cells #[.int .i64 y.stamp, .int .i64 y.sensor, .int .i64 y.seq, .bool y.input, .slice Aq y.data.length cq] 30))).trans hx10
        have hS11 : ∀ k, (Value.slice _ _ _).ownBlock = some k → D3 w10 k ∧ ws.heap.size ≤ k := fun k hk => ⟨own_D3 hop10 k hk, by have := (hop10.lt k hk).1; have := hx8.size; simp at *; omega⟩
        have hB11 := both_over hBa hxa10 hS11 hs11
        have T11 := T10.extS hs11 (fun e => by
          obtain ⟨cs, h'⟩ := own_D3 hop10 _ e
          exact h'.ne T10 (by decide) rfl)
        have hW11 := E.Ext.thenS (hWa.trans hxa10) hs11 (fun k hk hs => by
          have := (hS11 k hs).2
          have := hWa.size
          omega)
        clear cT8 fT8 cP9 fP9 cQ9 fQ9 cP10 fP10
        obtain ⟨cT11, fT11⟩ := T11.facts
        go_wp2_with fail
        refine E.wp_plan E.ext_pre 1000000 [(0, true), (1, true), (2, true), (3, true), (4, true), (6, true), (7, true), (8, true), (5, false), (9, false), (10, true), (11, true), (12, true), (13, true), (14, true), (15, true), (16, true), (17, true), (18, true), (20, true), (21, true), (22, true), (23, true), (24, true), (25, true), (19, false), (26, false), (27, true), (28, true), (29, true)] (by kernel_rfl) (by kernel_rfl) ?_
        repeat (first | (refine E.plan_pure (by simp only [List.getElem?_toArray, List.getElem?_cons_succ, List.getElem?_cons_zero]; rfl) (by rfl) (fun K hK => ?_); (go_simp; try go_bits; try go_simp); refine hK _ ?_; clear hK K) | (refine E.plan_load (by simp only [List.getElem?_toArray, List.getElem?_cons_succ, List.getElem?_cons_zero]; rfl) (by rfl) (by rfl) (fun K hK => ?_); (go_simp; try go_bits; try go_simp); refine hK _ ?_; clear hK K) | (refine E.plan_skip (E.Ext.refl _) (by simp only [List.getElem?_toArray, List.getElem?_cons_succ, List.getElem?_cons_zero]; rfl) (by rfl) (fun K hK => ?_); (go_simp; try go_bits; try go_simp); refine hK _ ?_; clear hK K))
        refine E.plan_eff (by simp only [List.getElem?_toArray, List.getElem?_cons_succ, List.getElem?_cons_zero]; rfl) (by rfl) (fun K hK => ?_); (go_simp; try go_bits)
        refine (until_any b pb ⟨KK, f2, m⟩ (i : Int) _ (hB11.ring.ext (E.Ext.drew _)) hB11.sorted).mono ?_; rintro e w12 ⟨rfl, hx12⟩; refine hK _ _ hx12 ?_; clear hK K
        have hB12 := (hB11.ext (E.Ext.drew _)).ext hx12
        obtain ⟨cT12, fT12⟩ := (T11.drew.ext hx12).facts
        repeat (first | (refine E.plan_pure (by simp only [List.getElem?_toArray, List.getElem?_cons_succ, List.getElem?_cons_zero]; rfl) (by rfl) (fun K hK => ?_); (go_simp; try go_bits; try go_simp); refine hK _ ?_; clear hK K) | (refine E.plan_load (by simp only [List.getElem?_toArray, List.getElem?_cons_succ, List.getElem?_cons_zero]; rfl) (by rfl) (by rfl) (fun K hK => ?_); (go_simp; try go_bits; try go_simp); refine hK _ ?_; clear hK K) | (refine E.plan_skip (E.Ext.refl _) (by simp only [List.getElem?_toArray, List.getElem?_cons_succ, List.getElem?_cons_zero]; rfl) (by rfl) (fun K hK => ?_); (go_simp; try go_bits; try go_simp); refine hK _ ?_; clear hK K))
        refine E.plan_eff (by simp only [List.getElem?_toArray, List.getElem?_cons_succ, List.getElem?_cons_zero]; rfl) (by rfl) (fun K hK => ?_); (go_simp; try go_bits)
        refine (refUntil_any rb KK m (i : Int) _ hB12.ref hl2).mono ?_; rintro e w13 ⟨rfl, hx13⟩; refine hK _ _ hx13 ?_; clear hK K
        have hB13 := hB12.ext hx13
        obtain ⟨cT13, fT13⟩ := ((T11.drew.ext hx12).ext hx13).facts
        repeat (first | (refine E.plan_pure (by simp only [List.getElem?_toArray, List.getElem?_cons_succ, List.getElem?_cons_zero]; rfl) (by rfl) (fun K hK => ?_); (go_simp; try go_bits; try go_simp); refine hK _ ?_; clear hK K) | (refine E.plan_load (by simp only [List.getElem?_toArray, List.getElem?_cons_succ, List.getElem?_cons_zero]; rfl) (by rfl) (by rfl) (fun K hK => ?_); (go_simp; try go_bits; try go_simp); refine hK _ ?_; clear hK K) | (refine E.plan_skip (E.Ext.refl _) (by simp only [List.getElem?_toArray, List.getElem?_cons_succ, List.getElem?_cons_zero]; rfl) (by rfl) (fun K hK => ?_); (go_simp; try go_bits; try go_simp); refine hK _ ?_; clear hK K))
        refine E.plan_eff (by simp only [List.getElem?_toArray, List.getElem?_cons_succ, List.getElem?_cons_zero]; rfl) (by rfl) (fun K hK => ?_); (go_simp; try go_bits)
        refine (twin_any b pb ⟨KK, f2, m⟩ xe.sensor (i : Int) _ hB13.ring).mono ?_; rintro e w14 ⟨rfl, hx14⟩; refine hK _ _ hx14 ?_; clear hK K
        have hB14 := hB13.ext hx14
        obtain ⟨cT14, fT14⟩ := (((T11.drew.ext hx12).ext hx13).ext hx14).facts
        repeat (first | (refine E.plan_pure (by simp only [List.getElem?_toArray, List.getElem?_cons_succ, List.getElem?_cons_zero]; rfl) (by rfl) (fun K hK => ?_); (go_simp; try go_bits; try go_simp); refine hK _ ?_; clear hK K) | (refine E.plan_load (by simp only [List.getElem?_toArray, List.getElem?_cons_succ, List.getElem?_cons_zero]; rfl) (by rfl) (by rfl) (fun K hK => ?_); (go_simp; try go_bits; try go_simp); refine hK _ ?_; clear hK K) | (refine E.plan_skip (E.Ext.refl _) (by simp only [List.getElem?_toArray, List.getElem?_cons_succ, List.getElem?_cons_zero]; rfl) (by rfl) (fun K hK => ?_); (go_simp; try go_bits; try go_simp); refine hK _ ?_; clear hK K))
        refine E.plan_eff (by simp only [List.getElem?_toArray, List.getElem?_cons_succ, List.getElem?_cons_zero]; rfl) (by rfl) (fun K hK => ?_); (go_simp; try go_bits)
        refine (refTwin_any rb KK m xe.sensor (i : Int) _ hB14.ref hl2).mono ?_; rintro e w15 ⟨rfl, hx15⟩; refine hK _ _ hx15 ?_; clear hK K
        repeat (first | (refine E.plan_pure (by simp only [List.getElem?_toArray, List.getElem?_cons_succ, List.getElem?_cons_zero]; rfl) (by rfl) (fun K hK => ?_); (go_simp; try go_bits; try go_simp); refine hK _ ?_; clear hK K) | (refine E.plan_load (by simp only [List.getElem?_toArray, List.getElem?_cons_succ, List.getElem?_cons_zero]; rfl) (by rfl) (by rfl) (fun K hK => ?_); (go_simp; try go_bits; try go_simp); refine hK _ ?_; clear hK K) | (refine E.plan_skip (E.Ext.refl _) (by simp only [List.getElem?_toArray, List.getElem?_cons_succ, List.getElem?_cons_zero]; rfl) (by rfl) (fun K hK => ?_); (go_simp; try go_bits; try go_simp); refine hK _ ?_; clear hK K))
        refine E.plan_nil ?_
        go_wp2_with fail
        go_ret
        exact ⟨rfl, f2, m, hB14.ext hx15, hW11.trans ((((E.Ext.drew _).trans hx12).trans hx13).trans (hx14.trans hx15))⟩
      · have hp' : xp < 0 ∨ (m.length : Int) ≤ xp := by omega
        clear hp
        have HP := Lib.hid hp'
        clear hp'
        go_wp2_with fail
        refine (get_no b pb ⟨KK, f2, m⟩ xp _ hBa.ring HP.out).mono ?_
        rintro e w8 ⟨rfl, hx8⟩
        have hop : w8.ownsRow ws.heap.size 3 1 (.slice none 0 0) 0 [] := ⟨rfl, Or.inl ⟨rfl, rfl⟩⟩
        clear cTa fTa
        have T8 := Ta.ext hx8
        have P8 := E.Blk.new w8 30 #[.int .i64 0, .int .i64 0, .int .i64 0, .bool false, .slice none 0 0]
        have hop8 := own_ext hop (E.Ext.alloc w8 (.cells #[.int .i64 0, .int .i64 0, .int .i64 0, .bool false, .slice none 0 0] 30))
        obtain ⟨cT8, fT8⟩ := (T8.alloc (.cells #[.int .i64 0, .int .i64 0, .int .i64 0, .bool false, .slice none 0 0] 30)).facts
        go_wp2_with fail
        refine (refGet_no rb KK m xp _ ((hBa.ref.ext hx8).ext (E.Ext.alloc _ _)) HP.out).mono ?_
        rintro e w9 ⟨rfl, hx9⟩
        try dsimp only [Entry.val]
        have hP9 := P8.ext hx9
        have P9 := hP9.alloc (.cells #[.int .i64 0, .int .i64 0, .int .i64 0, .bool false, .slice none 0 0] 30)
        have Q9 := E.Blk.new w9 30 #[.int .i64 0, .int .i64 0, .int .i64 0, .bool false, .slice none 0 0]
        have T9 := ((T8.alloc (.cells #[.int .i64 0, .int .i64 0, .int .i64 0, .bool false, .slice none 0 0] 30)).ext hx9).alloc (.cells #[.int .i64 0, .int .i64 0, .int .i64 0, .bool false, .slice none 0 0] 30)
        have hop9 := own_ext (own_ext hop8 hx9) (E.Ext.alloc w9 (.cells #[.int .i64 0, .int .i64 0, .int .i64 0, .bool false, .slice none 0 0] 30))
        obtain ⟨cP9, fP9⟩ := P9.facts
        obtain ⟨cQ9, fQ9⟩ := Q9.facts
        go_wp2_with fail
        refine (sameEntry_any bareE bareE none none 0 0 _ (Sl.nil _ _) (Sl.nil _ _)).mono ?_
        rintro e w10 ⟨rfl, hx10⟩
        have P10 := P9.ext hx10
        have T10 := T9.ext hx10
        obtain ⟨cP10, fP10⟩ := P10.facts
        go_wp2_with fail
        have hop10 := own_ext hop9 hx10
        refine (overInts_any _ _ _ _ _ _ hop10 (by omega)).mono ?_
        rintro e w11 ⟨rfl, hs11⟩
        have hxa10 := (((hx8.trans (E.Ext.alloc w8 (.cells #[.int .i64 0, .int .i64 0, .int .i64 0, .bool false, .slice none 0 0] 30))).trans hx9).trans (E.Ext.alloc w9 (.cells #[.int .i64 0, .int .i64 0, .int .i64 0, .bool false, .slice none 0 0] 30))).trans hx10
        have hS11 : ∀ k, (Value.slice _ _ _).ownBlock = some k → D3 w10 k ∧ ws.heap.size ≤ k := fun k hk => ⟨own_D3 hop10 k hk, by have := (hop10.lt k hk).1; have := hx8.size; simp at *; omega⟩
        have hB11 := both_over hBa hxa10 hS11 hs11
        have T11 := T10.extS hs11 (fun e => by
          obtain ⟨cs, h'⟩ := own_D3 hop10 _ e
          exact h'.ne T10 (by decide) rfl)
        have hW11 := E.Ext.thenS (hWa.trans hxa10) hs11 (fun k hk hs => by
          have := (hS11 k hs).2
          have := hWa.size
          omega)
        clear cT8 fT8 cP9 fP9 cQ9 fQ9 cP10 fP10
        obtain ⟨cT11, fT11⟩ := T11.facts
        go_wp2_with fail
        refine E.wp_plan E.ext_pre 1000000 [(0, true), (1, true), (2, true), (3, true), (4, true), (6, true), (7, true), (8, true), (5, false), (9, false), (10, true), (11, true), (12, true), (13, true), (14, true), (15, true), (16, true), (17, true), (18, true), (20, true), (21, true), (22, true), (23, true), (24, true), (25, true), (19, false), (26, false), (27, true), (28, true), (29, true)] (by kernel_rfl) (by kernel_rfl) ?_
        repeat (first | (refine E.plan_pure (by simp only [List.getElem?_toArray, List.getElem?_cons_succ, List.getElem?_cons_zero]; rfl) (by rfl) (fun K hK => ?_); (go_simp; try go_bits; try go_simp); refine hK _ ?_; clear hK K) | (refine E.plan_load (by simp only [List.getElem?_toArray, List.getElem?_cons_succ, List.getElem?_cons_zero]; rfl) (by rfl) (by rfl) (fun K hK => ?_); (go_simp; try go_bits; try go_simp); refine hK _ ?_; clear hK K) | (refine E.plan_skip (E.Ext.refl _) (by simp only [List.getElem?_toArray, List.getElem?_cons_succ, List.getElem?_cons_zero]; rfl) (by rfl) (fun K hK => ?_); (go_simp; try go_bits; try go_simp); refine hK _ ?_; clear hK K))
        refine E.plan_eff (by simp only [List.getElem?_toArray, List.getElem?_cons_succ, List.getElem?_cons_zero]; rfl) (by rfl) (fun K hK => ?_); (go_simp; try go_bits)
        refine (until_any b pb ⟨KK, f2, m⟩ xp _ (hB11.ring.ext (E.Ext.drew _)) hB11.sorted).mono ?_; rintro e w12 ⟨rfl, hx12⟩; refine hK _ _ hx12 ?_; clear hK K
        have hB12 := (hB11.ext (E.Ext.drew _)).ext hx12
        obtain ⟨cT12, fT12⟩ := (T11.drew.ext hx12).facts
        repeat (first | (refine E.plan_pure (by simp only [List.getElem?_toArray, List.getElem?_cons_succ, List.getElem?_cons_zero]; rfl) (by rfl) (fun K hK => ?_); (go_simp; try go_bits; try go_simp); refine hK _ ?_; clear hK K) | (refine E.plan_load (by simp only [List.getElem?_toArray, List.getElem?_cons_succ, List.getElem?_cons_zero]; rfl) (by rfl) (by rfl) (fun K hK => ?_); (go_simp; try go_bits; try go_simp); refine hK _ ?_; clear hK K) | (refine E.plan_skip (E.Ext.refl _) (by simp only [List.getElem?_toArray, List.getElem?_cons_succ, List.getElem?_cons_zero]; rfl) (by rfl) (fun K hK => ?_); (go_simp; try go_bits; try go_simp); refine hK _ ?_; clear hK K))
        refine E.plan_eff (by simp only [List.getElem?_toArray, List.getElem?_cons_succ, List.getElem?_cons_zero]; rfl) (by rfl) (fun K hK => ?_); (go_simp; try go_bits)
        refine (refUntil_any rb KK m xp _ hB12.ref hl2).mono ?_; rintro e w13 ⟨rfl, hx13⟩; refine hK _ _ hx13 ?_; clear hK K
        have hB13 := hB12.ext hx13
        obtain ⟨cT13, fT13⟩ := ((T11.drew.ext hx12).ext hx13).facts
        repeat (first | (refine E.plan_pure (by simp only [List.getElem?_toArray, List.getElem?_cons_succ, List.getElem?_cons_zero]; rfl) (by rfl) (fun K hK => ?_); (go_simp; try go_bits; try go_simp); refine hK _ ?_; clear hK K) | (refine E.plan_load (by simp only [List.getElem?_toArray, List.getElem?_cons_succ, List.getElem?_cons_zero]; rfl) (by rfl) (by rfl) (fun K hK => ?_); (go_simp; try go_bits; try go_simp); refine hK _ ?_; clear hK K) | (refine E.plan_skip (E.Ext.refl _) (by simp only [List.getElem?_toArray, List.getElem?_cons_succ, List.getElem?_cons_zero]; rfl) (by rfl) (fun K hK => ?_); (go_simp; try go_bits; try go_simp); refine hK _ ?_; clear hK K))
        refine E.plan_eff (by simp only [List.getElem?_toArray, List.getElem?_cons_succ, List.getElem?_cons_zero]; rfl) (by rfl) (fun K hK => ?_); (go_simp; try go_bits)
        refine (twin_any b pb ⟨KK, f2, m⟩ xe.sensor xp _ hB13.ring).mono ?_; rintro e w14 ⟨rfl, hx14⟩; refine hK _ _ hx14 ?_; clear hK K
        have hB14 := hB13.ext hx14
        obtain ⟨cT14, fT14⟩ := (((T11.drew.ext hx12).ext hx13).ext hx14).facts
        repeat (first | (refine E.plan_pure (by simp only [List.getElem?_toArray, List.getElem?_cons_succ, List.getElem?_cons_zero]; rfl) (by rfl) (fun K hK => ?_); (go_simp; try go_bits; try go_simp); refine hK _ ?_; clear hK K) | (refine E.plan_load (by simp only [List.getElem?_toArray, List.getElem?_cons_succ, List.getElem?_cons_zero]; rfl) (by rfl) (by rfl) (fun K hK => ?_); (go_simp; try go_bits; try go_simp); refine hK _ ?_; clear hK K) | (refine E.plan_skip (E.Ext.refl _) (by simp only [List.getElem?_toArray, List.getElem?_cons_succ, List.getElem?_cons_zero]; rfl) (by rfl) (fun K hK => ?_); (go_simp; try go_bits; try go_simp); refine hK _ ?_; clear hK K))
        refine E.plan_eff (by simp only [List.getElem?_toArray, List.getElem?_cons_succ, List.getElem?_cons_zero]; rfl) (by rfl) (fun K hK => ?_); (go_simp; try go_bits)
        refine (refTwin_any rb KK m xe.sensor xp _ hB14.ref hl2).mono ?_; rintro e w15 ⟨rfl, hx15⟩; refine hK _ _ hx15 ?_; clear hK K
        repeat (first | (refine E.plan_pure (by simp only [List.getElem?_toArray, List.getElem?_cons_succ, List.getElem?_cons_zero]; rfl) (by rfl) (fun K hK => ?_); (go_simp; try go_bits; try go_simp); refine hK _ ?_; clear hK K) | (refine E.plan_load (by simp only [List.getElem?_toArray, List.getElem?_cons_succ, List.getElem?_cons_zero]; rfl) (by rfl) (by rfl) (fun K hK => ?_); (go_simp; try go_bits; try go_simp); refine hK _ ?_; clear hK K) | (refine E.plan_skip (E.Ext.refl _) (by simp only [List.getElem?_toArray, List.getElem?_cons_succ, List.getElem?_cons_zero]; rfl) (by rfl) (fun K hK => ?_); (go_simp; try go_bits; try go_simp); refine hK _ ?_; clear hK K))
        refine E.plan_nil ?_
        go_wp2_with fail
        go_ret
        exact ⟨rfl, f2, m, hB14.ext hx15, hW11.trans ((((E.Ext.drew _).trans hx12).trans hx13).trans (hx14.trans hx15))⟩
end Go.Proofs.Ytjomgaafnpbmhaa.AB
