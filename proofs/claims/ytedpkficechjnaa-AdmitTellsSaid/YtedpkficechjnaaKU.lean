/- slices.Insert of one key into a slice without room. -/
import Derived.Test.YtedpkficechjnaaAV
namespace Go.Proofs.Ytedpkficechjnaa.KU
open Go.RowKit
open Go.Proofs.Ytedpkficechjnaa
open Go.Proofs.Ytedpkficechjnaa.KA Go.Proofs.Ytedpkficechjnaa.K Go.Proofs.Ytedpkficechjnaa.KB Go.Proofs.Ytedpkficechjnaa.KI Go.Proofs.Ytedpkficechjnaa.KQ Go.Proofs.Ytedpkficechjnaa.S Go.Proofs.Ytedpkficechjnaa.KR Go.Proofs.Ytedpkficechjnaa.KS Go.Proofs.Ytedpkficechjnaa.KT Go.Proofs.Ytedpkficechjnaa.AV
set_option linter.unusedVariables false
set_option linter.unusedSimpArgs false

def InsertedK (w : World) (l : List Key) (e : Ending) (w' : World) : Prop :=
  ∃ A c, e = .returned (.slice A l.length c) ∧ E.Ext w w' ∧ w'.ownsRow w.heap.size 28 3 (.slice A l.length c) l.length (keyCells l)

theorem ksl_one {w : World} {vb : Nat} {k : Key} (h : E.Blk w vb 28 #[.int .i64 k.stamp, .int .i64 k.sensor, .int .i64 k.seq]) : Sl w 3 (some ⟨vb, 0, none⟩) 1 1 (keyCells [k]) := by
  have := Sl.blk (size := 3) (n := 1) (c := 1) h rfl (Nat.le_refl _) (by omega)
  simpa [keyCells, kcells] using this

set_option maxRecDepth 8000 in
set_option maxHeartbeats 800000 in
theorem insertEnd_any (l : List Key) (A : Option Addr) (k : Key) (vb : Nat) (w : World) (h : Sl w 3 A l.length l.length (keyCells l)) (hl : l.length ≤ 1000000) (hv : E.Blk w vb 28 #[.int .i64 k.stamp, .int .i64 k.sensor, .int .i64 k.seq]) (hA : A = none → l.length = 0) :
    Calls Try.prog 48 #[.slice A l.length l.length, .int .i64 l.length, .slice (some ⟨vb, 0, none⟩) 1 1] w (InsertedK w (l ++ [k])) := by
  obtain ⟨A', c', w', hr, ho, hx⟩ := run_append_over (P := Try.prog) st47 24 A l.length l.length (keyCells l) h (some ⟨vb, 0, none⟩) 1 1 (keyCells [k]) (ksl_one hv) (by omega) (by omega) (by decide) hA
  have hlen : (l ++ [k]).length = l.length + 1 := by simp
  go_enter Try.func48, Try.ntmps48
  go_wp2_with (refine wpList_append_run rfl _ _ rfl rfl rfl hr ?_)
  go_ret
  refine ⟨A', c', by rw [hlen]; rfl, hx, ?_⟩
  rw [hlen]
  rw [← show keyCells (l ++ [k]) = keyCells l ++ keyCells [k] by simp [keyCells]] at ho
  exact ho

theorem inserted_cells {w2 w3 w3d w4 : World} {l : List Key} {k : Key} {i g base n1 c2 : Nat} {cs cs3 : Array Value} {zs : List Value} (hi : i < l.length) (hn1 : n1 = l.length + 1)
    (ho : w2.ownsRow base 28 3 (.slice (some ⟨g, 0, none⟩) n1 c2) n1 (keyCells (l.take i) ++ zs)) (hB2 : E.Blk w2 g 28 cs)
    (hB3 : E.Blk w3 g 28 cs3) (hz3 : cs3.size = cs.size) (h3 : ∀ j, cs3[j]? = if i * 3 ≤ j ∧ j < i * 3 + (keyCells [k]).length then (keyCells [k])[j - i * 3]? else cs[j]?)
    (hp4 : Put w3d g 28 cs3 ((i + 1) * 3) (keyCells (l.drop i)) w4) :
    w4.ownsRow base 28 3 (.slice (some ⟨g, 0, none⟩) n1 c2) n1 (keyCells (l.take i ++ k :: l.drop i)) := by
  obtain ⟨cs4, hB4, hz4, h4, _⟩ := hp4
  obtain ⟨hlen, h0 | ⟨g', cap, cur, hv, hb, hg, hnc, hcm, hcs, htk⟩⟩ := ho
  · obtain ⟨h0, _⟩ := h0; cases h0
  · cases hv
    have hcc : cur = cs := by
      have h1 : E.Blk w2 g 28 cur := hg
      unfold E.Blk at h1 hB2
      rw [h1] at hB2
      cases hB2
      rfl
    subst hcc
    have e0 : keyCells (l.take i ++ k :: l.drop i) = keyCells (l.take i) ++ (keyCells [k] ++ keyCells (l.drop i)) := by simp [keyCells]
    have l1 : (keyCells (l.take i)).length = i * 3 := by rw [keyCells_len, List.length_take, Nat.min_eq_left (by omega)]
    have l2 : (keyCells [k]).length = 3 := rfl
    have l3 : (keyCells (l.drop i)).length = (l.length - i) * 3 := by rw [keyCells_len, List.length_drop]
    have hll : (keyCells (l.take i ++ k :: l.drop i)).length = n1 * 3 := by
      rw [e0, List.length_append, List.length_append, l1, l2, l3]
      omega
    have hle : n1 * 3 ≤ c2 * 3 := Nat.mul_le_mul_right _ hnc
    have hlz : (keyCells (l.take i) ++ zs).length = n1 * 3 := hlen
    refine ⟨hll, .inr ⟨g, c2, cs4, rfl, hb, hB4, hnc, hcm, by rw [hz4, hz3]; exact hcs, ?_⟩⟩
    apply List.ext_getElem?
    intro j
    rw [List.getElem?_take]
    by_cases hj : j < n1 * 3
    · rw [if_pos hj, Array.getElem?_toList, h4, h3, e0]
      by_cases h5 : (i + 1) * 3 ≤ j
      · rw [if_pos ⟨h5, by rw [l3]; omega⟩, List.getElem?_append_right (by omega), List.getElem?_append_right (by omega), l1, l2]
        congr 1
        omega
      · rw [if_neg (by omega)]
        by_cases h6 : i * 3 ≤ j
        · rw [if_pos ⟨h6, by rw [l2]; omega⟩, List.getElem?_append_right (by omega), List.getElem?_append_left (by omega), l1]
        · rw [if_neg (by omega), List.getElem?_append_left (by omega)]
          have h7 := congrArg (fun l => l[j]?) htk
          rw [List.getElem?_take, if_pos hj, List.getElem?_append_left (by omega), Array.getElem?_toList] at h7
          exact h7
    · rw [if_neg hj, List.getElem?_eq_none (by omega)]

set_option maxRecDepth 8000 in
set_option maxHeartbeats 1600000 in
theorem insertMid_any (l : List Key) (A : Option Addr) (i : Nat) (k : Key) (vb : Nat) (w : World) (h : Sl w 3 A l.length l.length (keyCells l)) (hl : l.length ≤ 1000000) (hv : E.Blk w vb 28 #[.int .i64 k.stamp, .int .i64 k.sensor, .int .i64 k.seq]) (hi : i < l.length) :
    Calls Try.prog 48 #[.slice A l.length l.length, .int .i64 i, .slice (some ⟨vb, 0, none⟩) 1 1] w (InsertedK w (l.take i ++ k :: l.drop i)) := by
  obtain ⟨m, hm⟩ : ∃ m : Nat, (l.length : Int) + 1 - (i : Int) = (m : Int) := ⟨l.length + 1 - i, by omega⟩
  have hlen : (l.take i ++ k :: l.drop i).length = i + m := by rw [List.length_append, List.length_cons, List.length_take, List.length_drop, Nat.min_eq_left (by omega)]; omega
  obtain ⟨b, o, rfl, _⟩ := key_at h hi
  have ht := ksl_take h (i := i) (by omega)
  obtain ⟨A2, c2, w2, hr2, ho2, hx2⟩ := run_append_zeros (P := Try.prog) stzKey 3 Try.underlying3 24 _ i l.length _ ht m (by omega) (by omega) (by decide)
  obtain ⟨g, cap, cs, hg0, hgb, hB2, hsz⟩ : ∃ g c cs, Value.slice A2 (i + m) c2 = .slice (some ⟨g, 0, none⟩) (i + m) c ∧ w.heap.size ≤ g ∧ E.Blk w2 g 28 cs ∧ (i + m) * 3 ≤ cs.size := by
    rcases ho2.2 with ⟨_, h0⟩ | ⟨g, cap, cur, hv, hb, hg, hnc, _, hcs, _⟩
    · omega
    · exact ⟨g, cap, cur, hv, hb, hg, by rw [hcs]; exact Nat.mul_le_mul_right _ hnc⟩
  have hcc : A2 = some ⟨g, 0, none⟩ ∧ c2 = cap := by injection hg0 with h1 _ h3; exact ⟨h1, h3⟩
  obtain ⟨rfl, rfl⟩ := hcc
  clear hg0
  have hsl2 := (own_sl' ho2)
  have hcap2 := hsl2.cap
  have hmax2 := hsl2.max
  obtain ⟨w3, hr3, cs3, hB3, hz3, h3, hx3⟩ := run_copy_blk (P := Try.prog) st47 (g := g) (o := i * 3) (dl := m) (dc := c2 - i) (n := 1) (c := 1) hB2 (ksl_one (hv.ext hx2)) (by omega) (by omega) (keyCells_one _)
  have hd := h.cut (by decide) (k := i) (m := l.length) (c' := l.length) (by omega) (Nat.le_refl _) (Nat.le_refl _) (Nat.le_refl _)
  rw [if_neg (by omega), Option.map_some, addr_add, List.take_of_length_le (by rw [keyCells_len]; exact Nat.le_refl _), ← keyCells_drop] at hd
  have hbg : ¬ b = g := by
    obtain ⟨b', o', he, hbl, _⟩ := h.cells (by
      intro e
      have := congrArg List.length e
      rw [keyCells_len] at this
      simp only [List.length_nil] at this
      omega)
    cases he
    omega
  have hd3 : Sl w3 3 (some ⟨b, o + i * 3, none⟩) (l.length - i) (l.length - i) (keyCells (l.drop i)) := by
    have hd2 := hd.ext hx2
    refine ⟨hd2.len, hd2.cap, hd2.max, fun hne => ?_⟩
    obtain ⟨b', o', he, hbl, hc⟩ := hd2.cells hne
    cases he
    exact ⟨b, _, rfl, Nat.lt_of_lt_of_le hbl hx3.size, fun j u hu => (World.cell?_of_block (hx3.block b hbl hbg)).trans (hc j u hu)⟩
  obtain ⟨w4, hr4, hp4⟩ := run_copy_blk (P := Try.prog) st47 (g := g) (o := (i + 1) * 3) (dl := i + m - (i + 1)) (dc := c2 - (i + 1)) hB3.drew (hd3.ext (E.Ext.drew _)) (by omega) (by rw [hz3]; omega) (keyCells_one _)
  have HP4 := Lib.hid hp4
  have H3 := Lib.hid h3
  have hne1 : ¬ l.length = i := by omega
  have hne2 : ¬ c2 = i := by omega
  have hne3 : ¬ c2 = i + 1 := by omega
  have hi1 : (1 : Int) ≤ (m : Int) := by omega
  have hto : ((i : Int) + 1).toNat = i + 1 := by omega
  have hi0 : (0 : Int) ≤ (i : Int) + 1 := by omega
  have hile : i ≤ l.length := by omega
  have HO2 := Lib.hid ho2
  clear hp4 h3 ho2
  go_enter Try.func48, Try.ntmps48
  go_wp2_with (first | (refine wpList_append_run rfl _ _ rfl rfl rfl hr2 ?_) | (refine wpList_copy_run rfl _ _ rfl rfl rfl hr3 ?_))
  refine E.wp_plan (X := fun _ _ => True) ⟨fun _ => trivial, fun _ _ _ _ _ => trivial⟩ 1000000 [(0, true), (1, true), (2, true), (3, true), (4, true), (5, true), (6, true), (7, true), (8, false)] (by kernel_rfl) (by kernel_rfl) ?_
  repeat (first | (refine E.plan_pure (by simp only [List.getElem?_toArray, List.getElem?_cons_succ, List.getElem?_cons_zero]; rfl) (by rfl) (fun K hK => ?_); (go_simp; try go_bits; try go_simp); refine hK _ ?_; clear hK K) | (refine E.plan_load (by simp only [List.getElem?_toArray, List.getElem?_cons_succ, List.getElem?_cons_zero]; rfl) (by rfl) (by rfl) (fun K hK => ?_); (go_simp; try go_bits; try go_simp); refine hK _ ?_; clear hK K) | (refine E.plan_skip (E.Ext.refl _) (by simp only [List.getElem?_toArray, List.getElem?_cons_succ, List.getElem?_cons_zero]; rfl) (by rfl) (fun K hK => ?_); (go_simp; try go_bits; try go_simp); refine hK _ ?_; clear hK K))
  refine E.plan_eff (by simp only [List.getElem?_toArray, List.getElem?_cons_succ, List.getElem?_cons_zero]; rfl) (by rfl) (fun K hK => ?_)
  refine wp_copy_run _ _ rfl rfl rfl hr4 ?_
  go_simp
  refine hK _ _ trivial ?_; clear hK K
  refine E.plan_nil ?_
  go_wp2_with fail
  go_ret
  refine ⟨some ⟨g, 0, none⟩, c2, by rw [hlen]; rfl, ?_, ?_⟩
  · obtain ⟨_, _, _, _, hx4⟩ := HP4.out
    refine hx2.thenS ((hx3.trans ((E.Ext.drew _).toS _)).trans hx4) (fun k hk e => ?_)
    have e' : k = g := e
    omega
  · rw [hlen]
    exact inserted_cells hi (by omega) HO2.out hB2 hB3 hz3 H3.out HP4.out
end Go.Proofs.Ytedpkficechjnaa.KU
