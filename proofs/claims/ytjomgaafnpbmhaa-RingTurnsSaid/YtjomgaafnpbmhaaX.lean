/- The document's ring: Drop. -/
import Derived.Test.YtjomgaafnpbmhaaW
namespace Go.Proofs.Ytjomgaafnpbmhaa.X
open Go.RowKit
open Go.Proofs.Ytjomgaafnpbmhaa
open Go.Proofs.Ytjomgaafnpbmhaa.A Go.Proofs.Ytjomgaafnpbmhaa.K Go.Proofs.Ytjomgaafnpbmhaa.B Go.Proofs.Ytjomgaafnpbmhaa.C Go.Proofs.Ytjomgaafnpbmhaa.D Go.Proofs.Ytjomgaafnpbmhaa.F Go.Proofs.Ytjomgaafnpbmhaa.G Go.Proofs.Ytjomgaafnpbmhaa.H Go.Proofs.Ytjomgaafnpbmhaa.I Go.Proofs.Ytjomgaafnpbmhaa.J Go.Proofs.Ytjomgaafnpbmhaa.O Go.Proofs.Ytjomgaafnpbmhaa.P Go.Proofs.Ytjomgaafnpbmhaa.R Go.Proofs.Ytjomgaafnpbmhaa.V Go.Proofs.Ytjomgaafnpbmhaa.W
set_option linter.unusedVariables false
set_option linter.unusedSimpArgs false
variable {F : Nat → Prop}

theorem ref_dropped {w w' : World} {rb K : Nat} {x : Entry} {m : List Entry} {rs : List Rec} {A A' : Option Addr} {c c' : Nat} (h1 : x :: m = rs.map Rec.e) (h2 : E.Blk w rb 51 #[.int .i64 K, .slice A (x :: m).length c])
    (h3 : RowB w A (x :: m).length c (rcells rs)) (h4 : ∀ r, r ∈ rs → RecOk F w r) (hx : E.ExtS (fun k => k = rb) w w') (hF : ∀ k, F k → k ≠ rb)
    (hB : E.Blk w' rb 51 #[.int .i64 K, .slice A' m.length c']) (hc : c' + 1 = c) (hA : c' ≠ 0 → A' = A.map (·.add 5)) (hP : ∃ b o, A' = some ⟨b, o, none⟩) : RefAt F w' rb K m := by
  cases rs with
  | nil => cases h1
  | cons r rs =>
    simp only [List.map_cons, List.cons.injEq] at h1
    obtain ⟨rfl, rfl⟩ := h1
    have hrow := h3.extS hx (fun k cs hk e => hk.ne h2 (by decide) e)
    refine ⟨rs, A', c', rfl, hB, ⟨by rw [rcells_len]; simp, ?_, ?_, .inr hP, fun hne => ?_⟩, fun r' hr' => (h4 r' (List.mem_cons_of_mem _ hr')).extS hx hF⟩
    · have := h3.cap; simp only [List.length_cons] at this; omega
    · have := h3.max; omega
    · have hpos : 0 < rs.length := by
        rcases Nat.eq_zero_or_pos rs.length with h | h
        · exfalso
          apply hne
          rw [List.eq_nil_of_length_eq_zero h]
          rfl
        · exact h
      have hcap := h3.cap
      simp only [List.length_cons, List.length_map] at hcap
      obtain ⟨b, o, cs, rfl, hb, hcs⟩ := hrow.blk (by simp [rcells, Rec.cells])
      refine ⟨b, o + 5, cs, ?_, hb, fun j u hu => ?_⟩
      · rw [hA (by omega), Option.map_some, addr_add]
      · have := hcs (5 + j) u (by
          simp only [rcells, List.flatMap_cons]
          rw [List.getElem?_append_right (by simp [Rec.cells])]
          have e5 : r.cells.length = 5 := rfl
          rw [e5, Nat.add_sub_cancel_left]
          exact hu)
        rw [← this, Nat.add_assoc]

set_option maxHeartbeats 800000 in
theorem refDrop_yes (rb K : Nat) (x : Entry) (m : List Entry) (w : World) (hr : RefAt F w rb K (x :: m)) (hd : x.data.length ≤ 1099511627776) (hF : ∀ k, F k → k ≠ rb) :
    Calls Try.prog 37 #[.pointer (some ⟨rb, 0, none⟩)] w (RefDropped F w rb K x m) := by
  have hr1 := hr.ext (E.Ext.alloc w (.cells #[.int .i64 0, .int .i64 0, .int .i64 0, .bool false, .slice none 0 0] 30))
  obtain ⟨A, c, b, o, A', c', hB, hcap, hmax, rfl, _⟩ := hr.at_ (i := 0) rfl
  have hlt := hB.lt
  simp only [List.length_cons] at hcap
  go_enter Try.func37, Try.ntmps37
  go_wp2_with fail
  refine (refGet_yes rb K (x :: m) 0 x _ hr1 rfl hd).mono ?_
  rintro e w2 ⟨A2, c2, rfl, hx2, ho2⟩
  dsimp only [Entry.val]
  have H1 := E.blk0 hx2 rfl
  have hsz := H1.lt
  obtain ⟨cH1, fH1⟩ := H1.facts
  have H2 := E.Blk.new w2 30 #[.int .i64 x.stamp, .int .i64 x.sensor, .int .i64 x.seq, .bool x.input, .slice A2 x.data.length c2]
  obtain ⟨cH2, fH2⟩ := H2.facts
  have hxw : E.Ext w (w2.alloc (.cells #[.int .i64 x.stamp, .int .i64 x.sensor, .int .i64 x.seq, .bool x.input, .slice A2 x.data.length c2] 30)) := ((E.Ext.alloc _ _).trans hx2).trans (E.Ext.alloc _ _)
  have hB3 := hB.ext hxw
  obtain ⟨cB, fB⟩ := hB3.facts
  have hd1 : ¬ w.heap.size = rb := by omega
  have hd2 : ¬ w2.heap.size = rb := by omega
  obtain ⟨rs, A0, c0, k1, k2, k3, k4⟩ := hr
  have hAA : A0 = some ⟨b, o, none⟩ ∧ c0 = c := by
    have h := k2.cell 1
    rw [hB.cell 1] at h
    simp only [List.getElem?_toArray, List.getElem?_cons_succ, List.getElem?_cons_zero, Option.some.injEq, Value.slice.injEq] at h
    exact ⟨h.1.symm, h.2.2.symm⟩
  obtain ⟨rfl, rfl⟩ := hAA
  have cH3 := (fun v => (H1.alloc (.cells #[.int .i64 x.stamp, .int .i64 x.sensor, .int .i64 x.seq, .bool x.input, .slice A2 x.data.length c2] 30)).far (p := ⟨rb, 1, none⟩) hd1 v |>.cell)
  have HK1 := Lib.hid k1
  have HK4 := Lib.hid k4
  have HF := Lib.hid hF
  clear k1 k4 hF
  by_cases hc1 : c0 = 1
  · subst hc1
    go_wp2_with fail
    obtain rfl : m = [] := List.eq_nil_of_length_eq_zero (by omega)
    have hS : E.ExtS (fun k => k = rb) w (((((((w2.alloc (.cells #[.int .i64 x.stamp, .int .i64 x.sensor, .int .i64 x.seq, .bool x.input, .slice A2 x.data.length c2] 30)).setCell ⟨rb, 1, none⟩ (.slice (some ⟨b, o, none⟩) 0 0)).setCell ⟨w.heap.size, 0, none⟩ (.int .i64 x.stamp)).setCell ⟨w.heap.size, 1, none⟩ (.int .i64 x.sensor)).setCell ⟨w.heap.size, 2, none⟩ (.int .i64 x.seq)).setCell ⟨w.heap.size, 3, none⟩ (.bool x.input)).setCell ⟨w.heap.size, 4, none⟩ (.slice A2 x.data.length c2)) := by
      repeat (refine E.ExtS.set ?_ (by simp) _)
      exact hxw.toS _
    refine bodyPost_ret (v := .tuple #[x.val A2 c2, .int .i64 0]) (by simp [results, Try.results37, go_sem, Entry.val, cH1, hd1, hsz, cH3]) rfl ⟨A2, c2, rfl, hS, ?_, ?_⟩
    · refine own_mono (base := w.heap.size + 1) ?_ (by omega)
      have h3 := own_ext ho2 (E.Ext.alloc w2 (.cells #[.int .i64 x.stamp, .int .i64 x.sensor, .int .i64 x.seq, .bool x.input, .slice A2 x.data.length c2] 30))
      simp only [World.size_alloc] at h3
      refine own_extS (S := fun k => k = rb ∨ k = w.heap.size) h3 ?_ ?_
      · repeat (refine E.ExtS.set ?_ (by simp) _)
        exact E.ExtS.refl _ _
      · intro k cs hk e
        rcases e with e | e
        · exact hk.ne hB3 (by decide) e
        · exact hk.ne (H1.alloc _) (by decide) e
    exact ref_dropped HK1.out k2 k3 HK4.out hS HF.out ((((((((hB3.set 1 _).far (Ne.symm hd1) _).far (Ne.symm hd1) _).far (Ne.symm hd1) _).far (Ne.symm hd1) _).far (Ne.symm hd1) _))) (c' := 0) rfl (fun h => absurd rfl h) ⟨_, _, rfl⟩
  · have hc2 : ¬ c0 - 1 = 0 := by omega
    go_wp2_with fail
    have hS : E.ExtS (fun k => k = rb) w (((((((w2.alloc (.cells #[.int .i64 x.stamp, .int .i64 x.sensor, .int .i64 x.seq, .bool x.input, .slice A2 x.data.length c2] 30)).setCell ⟨rb, 1, none⟩ (.slice (some ⟨b, o + 5, none⟩) m.length (c0 - 1))).setCell ⟨w.heap.size, 0, none⟩ (.int .i64 x.stamp)).setCell ⟨w.heap.size, 1, none⟩ (.int .i64 x.sensor)).setCell ⟨w.heap.size, 2, none⟩ (.int .i64 x.seq)).setCell ⟨w.heap.size, 3, none⟩ (.bool x.input)).setCell ⟨w.heap.size, 4, none⟩ (.slice A2 x.data.length c2)) := by
      repeat (refine E.ExtS.set ?_ (by simp) _)
      exact hxw.toS _
    refine bodyPost_ret (v := .tuple #[x.val A2 c2, .int .i64 0]) (by simp [results, Try.results37, go_sem, Entry.val, cH1, hd1, hsz, cH3]) rfl ⟨A2, c2, rfl, hS, ?_, ?_⟩
    · refine own_mono (base := w.heap.size + 1) ?_ (by omega)
      have h3 := own_ext ho2 (E.Ext.alloc w2 (.cells #[.int .i64 x.stamp, .int .i64 x.sensor, .int .i64 x.seq, .bool x.input, .slice A2 x.data.length c2] 30))
      simp only [World.size_alloc] at h3
      refine own_extS (S := fun k => k = rb ∨ k = w.heap.size) h3 ?_ ?_
      · repeat (refine E.ExtS.set ?_ (by simp) _)
        exact E.ExtS.refl _ _
      · intro k cs hk e
        rcases e with e | e
        · exact hk.ne hB3 (by decide) e
        · exact hk.ne (H1.alloc _) (by decide) e
    exact ref_dropped HK1.out k2 k3 HK4.out hS HF.out ((((((((hB3.set 1 _).far (Ne.symm hd1) _).far (Ne.symm hd1) _).far (Ne.symm hd1) _).far (Ne.symm hd1) _).far (Ne.symm hd1) _))) (c' := c0 - 1) (by omega) (fun h => by rw [Option.map_some, addr_add]) ⟨_, _, rfl⟩
end Go.Proofs.Ytjomgaafnpbmhaa.X
