/- Lists and entries side by side; copies; what is written over. -/
import Derived.Test.YtedpkficechjnaaKI
namespace Go.Proofs.Ytedpkficechjnaa.KO
open Go.RowKit
open Go.Proofs.Ytedpkficechjnaa
open Go.Proofs.Ytedpkficechjnaa.KA Go.Proofs.Ytedpkficechjnaa.K Go.Proofs.Ytedpkficechjnaa.KB Go.Proofs.Ytedpkficechjnaa.KI
set_option linter.unusedVariables false
set_option linter.unusedSimpArgs false
variable {F : Nat → Prop}

theorem int_at {w : World} {A : Option Addr} {c : Nat} {l : List Int} (h : Sl w 1 A l.length c (ints l)) {k : Nat} (hk : k < l.length) :
    ∃ b o, A = some ⟨b, o, none⟩ ∧ w.cell? ⟨b, o + k, none⟩ = some (.int .i64 l[k]) := by
  obtain ⟨b, o, rfl, _, hc⟩ := h.cells (by
    intro e
    have := congrArg List.length e
    simp [ints] at this
    rw [this] at hk
    simp at hk)
  exact ⟨b, o, rfl, hc k _ (by simp [ints, List.getElem?_eq_getElem hk])⟩

theorem take_eq_int {l l' : List Int} {k : Nat} (h : k < l.length) (h' : k < l'.length) (e : l.take k = l'.take k) : l.take (k + 1) = l'.take (k + 1) ↔ l[k] = l'[k] := by
  rw [List.take_succ_eq_append_getElem h, List.take_succ_eq_append_getElem h', e]
  exact ⟨fun h => by have := List.append_cancel_left h; simpa using this, fun h => by rw [h]⟩

theorem entry_eq (x y : Entry) : x = y ↔ x.stamp = y.stamp ∧ x.sensor = y.sensor ∧ x.seq = y.seq ∧ x.input = y.input ∧ x.data = y.data := by
  obtain ⟨a, b, c, d, e⟩ := x
  obtain ⟨a', b', c', d', e'⟩ := y
  simp

theorem less14_any (a b : Key) (w : World) : Calls Try.prog 53 #[a.val, b.val] w fun e w' => e = .returned (.bool (a.lt b)) ∧ E.Ext w w' := by
  have hlt := lt_iff a b
  have HL := Lib.hid hlt
  clear hlt
  unfold Key.val
  by_cases h0 : a.stamp = b.stamp
  · have b0 : (a.stamp != b.stamp) = false := by simpa using h0
    have H0 := Lib.hid h0
    clear h0
    by_cases h1 : a.sensor = b.sensor
    · have b1 : (a.sensor != b.sensor) = false := by simpa using h1
      have H1 := Lib.hid h1
      clear h1
      go_enter Try.func53, Try.ntmps53
      go_wp2
      go_ret
      refine ⟨?_, (E.Ext.alloc _ _).trans (E.Ext.alloc _ _)⟩
      show Ending.returned (.bool _) = _
      congr 2
      rw [Bool.eq_iff_iff, HL.out, decide_eq_true_eq]
      have := H0.out
      have := H1.out
      omega
    · have b1 : (a.sensor != b.sensor) = true := by simpa using h1
      have H1 := Lib.hid h1
      clear h1
      go_enter Try.func53, Try.ntmps53
      go_wp2
      go_ret
      refine ⟨?_, (E.Ext.alloc _ _).trans (E.Ext.alloc _ _)⟩
      show Ending.returned (.bool _) = _
      congr 2
      rw [Bool.eq_iff_iff, HL.out, decide_eq_true_eq]
      have := H0.out
      have := H1.out
      omega
  · have b0 : (a.stamp != b.stamp) = true := by simpa using h0
    have H0 := Lib.hid h0
    clear h0
    go_enter Try.func53, Try.ntmps53
    go_wp2
    go_ret
    refine ⟨?_, (E.Ext.alloc _ _).trans (E.Ext.alloc _ _)⟩
    show Ending.returned (.bool _) = _
    congr 2
    rw [Bool.eq_iff_iff, HL.out, decide_eq_true_eq]
    have := H0.out
    omega

theorem own_blk {w : World} {base : Nat} {e : TypeId} {size n : Nat} {v : Value} {xs : List Value} (h : w.ownsRow base e size v n xs) (hn : 0 < n) :
    ∃ g c cs, v = .slice (some ⟨g, 0, none⟩) n c ∧ base ≤ g ∧ E.Blk w g e cs ∧ n * size ≤ cs.size := by
  rcases h.2 with ⟨_, h0⟩ | ⟨g, cap, cur, rfl, hb, hg, hnc, _, hcs, _⟩
  · omega
  · exact ⟨g, cap, cur, rfl, hb, hg, by rw [hcs]; exact Nat.mul_le_mul_right _ hnc⟩

end Go.Proofs.Ytedpkficechjnaa.KO
