/- (*Ring).Drop. -/
import Derived.Test.YtjomgaafnpbmhaaJ
namespace Go.Proofs.Ytjomgaafnpbmhaa.P
open Go.RowKit
open Go.Proofs.Ytjomgaafnpbmhaa
open Go.Proofs.Ytjomgaafnpbmhaa.A Go.Proofs.Ytjomgaafnpbmhaa.K Go.Proofs.Ytjomgaafnpbmhaa.B Go.Proofs.Ytjomgaafnpbmhaa.C Go.Proofs.Ytjomgaafnpbmhaa.D Go.Proofs.Ytjomgaafnpbmhaa.F Go.Proofs.Ytjomgaafnpbmhaa.G Go.Proofs.Ytjomgaafnpbmhaa.H
set_option linter.unusedVariables false
set_option linter.unusedSimpArgs false
variable {F : Nat → Prop}

/-- What is dropped, in memory of its own; the ring behind. -/
def Dropped (F : Nat → Prop) (w : World) (b pb K first : Nat) (x : Entry) (m : List Entry) (e : Ending) (w' : World) : Prop :=
  ∃ A c, e = .returned (.tuple #[x.val A c, .int .i64 0]) ∧ E.ExtS (fun k => k = b ∨ k = pb) w w' ∧ w'.ownsRow w.heap.size 3 1 (.slice A x.data.length c) x.data.length (ints x.data) ∧ RingAt F w' b pb ⟨K, (first + 1) % K, m⟩

theorem ring_dropped {K first : Nat} {x : Entry} {m : List Entry} {b pb : Nat} {w w' : World} (hr : RingAt F w b pb ⟨K, first, x :: m⟩) (hx : E.ExtS (fun k => k = b ∨ k = pb) w w')
    (hB : E.Blk w' b 66 #[.slice (some ⟨pb, 0, none⟩) K K, .int .i64 (((first + 1) % K : Nat) : Int), .int .i64 (m.length : Int)])
    (hP : ∀ ps, E.Blk w pb 69 ps → E.Blk w' pb 69 (ps.setIfInBounds (first % K) (.pointer none))) :
    RingAt F w' b pb ⟨K, (first + 1) % K, m⟩ := by
  obtain ⟨ok, hB0, ps, gp, hps1, hps, hpl⟩ := hr
  have hK := ok.pos
  have hm := ok.many
  simp only [List.length_cons] at hm hK
  refine ⟨⟨ok.pos, ok.most, Nat.mod_lt _ hK, by simp only; omega⟩, hB, _, fun i => gp (i + 1), ?_, hP ps hps, fun i y hi => ?_⟩
  · simp only [Array.size_setIfInBounds]; exact hps1
  · have hiK : i + 1 < K := by
      have := (List.getElem?_eq_some_iff.1 hi).1
      simp only at this
      omega
    obtain ⟨h1, h2⟩ := hpl (i + 1) y (by simpa using hi)
    refine ⟨?_, h2.extS hx (fun k cs hk e => ?_) (fun k cs hk e => ?_)⟩
    · have e1 : ((first + 1) % K + i) % K = (first + (i + 1)) % K := by
        rw [Nat.mod_add_mod]
        congr 1
        omega
      simp only at h1 ⊢
      rw [e1, Array.getElem?_setIfInBounds_ne (fun e => by have := pos_inj (f := first) (i := 0) (by omega) hiK e; omega)]
      exact h1
    · rcases e with e | e
      · exact hk.ne hB0 (by decide) e
      · exact hk.ne hps (by decide) e
    · rcases e with e | e
      · exact hk.ne hB0 (by decide) e
      · exact hk.ne hps (by decide) e

set_option maxHeartbeats 1600000 in
theorem drop_yes (b pb K first : Nat) (x : Entry) (m : List Entry) (w : World) (hr : RingAt F w b pb ⟨K, first, x :: m⟩) (hd : x.data.length ≤ 1099511627776) :
    Calls Try.prog 25 #[.pointer (some ⟨b, 0, none⟩)] w (Dropped F w b pb K first x m) := by
  have hK := hr.ok.pos
  have hmost := hr.ok.most
  have hmany := hr.ok.many
  have hf := hr.ok.first
  simp only [List.length_cons] at hmany hK hmost hf
  have ok := hr.ok
  have hr1 := hr.ext (E.Ext.alloc w (.cells #[.int .i64 0, .int .i64 0, .int .i64 0, .bool false, .slice none 0 0] 30))
  go_enter Try.func25, Try.ntmps25
  go_wp2_with fail
  refine (get_yes b pb _ 0 x _ hr1 rfl hd).mono ?_
  rintro e w2 ⟨A, c, rfl, hx2, ho2⟩
  dsimp only [Entry.val]
  have H1 := E.blk0 hx2 rfl
  go_wp2_with fail
  have hxw : E.Ext w (w2.alloc (.cells #[.int .i64 x.stamp, .int .i64 x.sensor, .int .i64 x.seq, .bool x.input, .slice A x.data.length c] 30)) := ((E.Ext.alloc _ _).trans hx2).trans (E.Ext.alloc _ _)
  refine (at_any b pb _ 0 _ (hr.ext hxw).struct ok (by decide)).mono ?_
  rintro e w3 ⟨rfl, hx3⟩
  have hx03 := hxw.trans hx3
  have H2 := E.blk0 hx3 rfl
  replace H1 := (H1.alloc _).ext hx3
  obtain ⟨_, hb3, ps, hps1, hps, hpl⟩ := (hr.ext hx03).get
  simp only at hps1
  have hne : b ≠ pb := hb3.ne hps (by decide)
  have hlt : first % K < ps.size := by rw [hps1]; exact Nat.mod_lt _ (by omega)
  obtain ⟨cps, fps⟩ := hps.facts
  have hold : ps[first % K]? = some (ps[first % K]'hlt) := Array.getElem?_eq_getElem hlt
  generalize ps[first % K]'hlt = old at hold
  go_wp2_with fail
  have hB4 := hb3.far (p := ⟨pb, first % K, none⟩) hne (.pointer none)
  obtain ⟨cB4, fB4⟩ := E.Blk.facts hB4
  have hne0 : ¬ K = 0 := by omega
  have hm1 : 0 ≤ ((first : Int) + 1) % (K : Int) := Int.emod_nonneg _ (by omega)
  have hm2 : ((first : Int) + 1) % (K : Int) < (K : Int) := Int.emod_lt_of_pos _ (by omega)
  refine E.wp_plan E.ext_pre 14 [(0, true), (1, true), (2, true), (3, true), (4, true), (5, true), (6, true), (7, true), (8, true), (9, true), (10, true), (11, true), (12, false), (13, true), (14, false)] (by kernel_rfl) (by kernel_rfl) ?_
  repeat (first | (refine E.plan_pure (by simp only [List.getElem?_toArray, List.getElem?_cons_succ, List.getElem?_cons_zero]; rfl) (by rfl) (fun K hK => ?_); (go_simp; try go_bits; try go_simp); refine hK _ ?_; clear hK K) | (refine E.plan_load (by simp only [List.getElem?_toArray, List.getElem?_cons_succ, List.getElem?_cons_zero]; rfl) (by rfl) (by rfl) (fun K hK => ?_); (go_simp; try go_bits; try go_simp); refine hK _ ?_; clear hK K) | (refine E.plan_skip (E.Ext.refl _) (by simp only [List.getElem?_toArray, List.getElem?_cons_succ, List.getElem?_cons_zero]; rfl) (by rfl) (fun K hK => ?_); (go_simp; try go_bits; try go_simp); refine hK _ ?_; clear hK K))
  refine E.plan_eff (by simp only [List.getElem?_toArray, List.getElem?_cons_succ, List.getElem?_cons_zero]; rfl) (by rfl) (fun K hK => ?_); (go_simp; try go_bits)
  refine hK _ _ (E.Ext.refl _) ?_; clear hK K
  repeat (first | (refine E.plan_pure (by simp only [List.getElem?_toArray, List.getElem?_cons_succ, List.getElem?_cons_zero]; rfl) (by rfl) (fun K hK => ?_); (go_simp; try go_bits; try go_simp); refine hK _ ?_; clear hK K) | (refine E.plan_load (by simp only [List.getElem?_toArray, List.getElem?_cons_succ, List.getElem?_cons_zero]; rfl) (by rfl) (by rfl) (fun K hK => ?_); (go_simp; try go_bits; try go_simp); refine hK _ ?_; clear hK K) | (refine E.plan_skip (E.Ext.refl _) (by simp only [List.getElem?_toArray, List.getElem?_cons_succ, List.getElem?_cons_zero]; rfl) (by rfl) (fun K hK => ?_); (go_simp; try go_bits; try go_simp); refine hK _ ?_; clear hK K))
  refine E.plan_last (by simp only [List.getElem?_toArray, List.getElem?_cons_succ, List.getElem?_cons_zero]; rfl) (by rfl) (fun K hK => ?_); (go_simp; try go_bits); refine hK _ _ ?_; clear hK K
  refine E.plan_nil ?_
  have eN : ((first : Int) + 1) % (K : Int) = (((first + 1) % K : Nat) : Int) := by simp
  rw [eN]; clear eN hm1 hm2
  have hbl := hr.struct.lt
  have hpl2 : pb < w.heap.size := by
    obtain ⟨_, _, ps', _, hps', _⟩ := hr.get
    exact hps'.lt
  have hsz2 : w.heap.size < w2.heap.size := by
    have := (E.blk0 hx2 rfl).lt
    exact this
  have H5 := ((E.Blk.set hB4 1 (.int .i64 (((first + 1) % K : Nat) : Int)))).drew
  have hmm : ((m.length : Int) + 1 - 1) = (m.length : Int) := by omega
  obtain ⟨cH5, fH5⟩ := H5.facts
  obtain ⟨cH1, fH1⟩ := H1.facts
  obtain ⟨cH2, fH2⟩ := H2.facts
  have hd1 : ¬ w.heap.size = b := by omega
  have hd2 : ¬ w.heap.size = pb := by omega
  have hd3 : ¬ w2.heap.size = b := by omega
  have hd4 : ¬ w2.heap.size = pb := by omega
  go_wp2_with fail
  refine bodyPost_ret (v := .tuple #[x.val A c, .int .i64 0]) (by simp [results, Try.results25, go_sem, Entry.val, cH1, hd1, hd2]) rfl ?_
  have eN : ((first : Int) + 1) % (K : Int) = (((first + 1) % K : Nat) : Int) := by simp
  rw [eN]
  have hX : E.ExtS (fun k => k = b ∨ k = pb) w ((((((((w3.setCell ⟨pb, first % K, none⟩ (.pointer none)).setCell ⟨b, 1, none⟩ (.int .i64 (((first + 1) % K : Nat) : Int))).setCell ⟨b, 2, none⟩ (.int .i64 (m.length : Int))).setCell ⟨w.heap.size, 0, none⟩ (.int .i64 x.stamp)).setCell ⟨w.heap.size, 1, none⟩ (.int .i64 x.sensor)).setCell ⟨w.heap.size, 2, none⟩ (.int .i64 x.seq)).setCell ⟨w.heap.size, 3, none⟩ (.bool x.input)).setCell ⟨w.heap.size, 4, none⟩ (.slice A x.data.length c)).drew := by
    refine E.ExtS.trans ?_ ((E.Ext.drew _).toS _)
    repeat (refine E.ExtS.set ?_ (by simp) _)
    exact hx03.toS _
  refine ⟨A, c, rfl, hX, ?_, ring_dropped hr hX ?_ ?_⟩
  · refine own_mono (base := w.heap.size + 1) ?_ (by omega)
    have h3 := own_ext (own_ext ho2 (E.Ext.alloc w2 (.cells #[.int .i64 x.stamp, .int .i64 x.sensor, .int .i64 x.seq, .bool x.input, .slice A x.data.length c] 30))) hx3
    simp only [World.size_alloc] at h3
    refine own_extS (S := fun k => k = b ∨ k = pb ∨ k = w.heap.size) h3 ?_ ?_
    · refine E.ExtS.trans ?_ ((E.Ext.drew _).toS _)
      repeat (refine E.ExtS.set ?_ (by simp) _)
      exact E.ExtS.refl _ _
    · intro k cs hk e
      rcases e with e | e | e
      · exact hk.ne hb3 (by decide) e
      · exact hk.ne hps (by decide) e
      · exact hk.ne H1 (by decide) e
  · exact ((((((((E.Blk.set (E.Blk.set hB4 1 _) 2 _).far (Ne.symm hd1) _).far (Ne.symm hd1) _).far (Ne.symm hd1) _).far (Ne.symm hd1) _).far (Ne.symm hd1) _)).drew)
  · intro ps2 hps2
    have hps3 := hps2.ext hx03
    exact ((((((((hps3.set (first % K) (.pointer none)).far (Ne.symm hne) _).far (Ne.symm hne) _).far (Ne.symm hd2) _).far (Ne.symm hd2) _).far (Ne.symm hd2) _).far (Ne.symm hd2) _).far (Ne.symm hd2) _).drew
set_option maxHeartbeats 800000 in
theorem drop_no (b pb K first : Nat) (w : World) (hr : RingAt F w b pb ⟨K, first, []⟩) :
    Calls Try.prog 25 #[.pointer (some ⟨b, 0, none⟩)] w (Got w none) := by
  have hr1 := hr.ext (E.Ext.alloc w (.cells #[.int .i64 0, .int .i64 0, .int .i64 0, .bool false, .slice none 0 0] 30))
  go_enter Try.func25, Try.ntmps25
  go_wp2_with fail
  refine (get_no b pb _ 0 _ hr1 (Or.inr (by simp))).mono ?_
  rintro e w2 ⟨rfl, hx2⟩
  have H1 := E.blk0 hx2 rfl
  obtain ⟨cH1, fH1⟩ := H1.facts
  have hsz := H1.lt
  obtain ⟨cH2, fH2⟩ := (H1.alloc (.cells #[.int .i64 0, .int .i64 0, .int .i64 0, .bool false, .slice none 0 0] 30)).facts
  have hx3 : E.Ext w (w2.alloc (.cells #[.int .i64 0, .int .i64 0, .int .i64 0, .bool false, .slice none 0 0] 30)) := ((E.Ext.alloc _ _).trans hx2).trans (E.Ext.alloc _ _)
  go_wp2_with fail
  have cH3 := ((((((H1.set 0 (.int .i64 0)).set 1 (.int .i64 0)).set 2 (.int .i64 0)).set 3 (.bool false)).set 4 (.slice none 0 0)).alloc (.cells #[.int .i64 0, .int .i64 0, .int .i64 0, .bool false, .slice none 0 0] 30)).cell
  refine bodyPost_ret (v := .tuple #[.agg #[.int .i64 0, .int .i64 0, .int .i64 0, .bool false, .slice none 0 0], .int .i64 4]) (by simp [results, Try.results25, go_sem, cH3]) rfl ⟨rfl, ?_⟩
  refine E.Ext.trans ?_ (E.Ext.alloc _ _)
  repeat (refine E.Ext.setCell ?_ (by simp) _)
  exact (E.Ext.alloc _ _).trans hx2
end Go.Proofs.Ytjomgaafnpbmhaa.P
