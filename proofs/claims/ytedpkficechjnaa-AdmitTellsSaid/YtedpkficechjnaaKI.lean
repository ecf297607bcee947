/- Lists of keys. -/
import Derived.Test.YtedpkficechjnaaKB
import Derived.Lib.Hide
namespace Go.Proofs.Ytedpkficechjnaa.KI
open Go.RowKit
open Go.Proofs.Ytedpkficechjnaa
open Go.Proofs.Ytedpkficechjnaa.KA Go.Proofs.Ytedpkficechjnaa.K Go.Proofs.Ytedpkficechjnaa.KB
set_option linter.unusedVariables false
set_option linter.unusedSimpArgs false
def kcells (k : Key) : List Value := [.int .i64 k.stamp, .int .i64 k.sensor, .int .i64 k.seq]
def keyCells (l : List Key) : List Value := l.flatMap kcells
theorem keyCells_len (l : List Key) : (keyCells l).length = l.length * 3 := by
  induction l with
  | nil => rfl
  | cons k l ih => simp only [keyCells, List.flatMap_cons, List.length_append, List.length_cons] at *; rw [ih]; simp [kcells]; omega
theorem keyCells_snoc (l : List Key) (k : Key) : keyCells (l ++ [k]) = keyCells l ++ kcells k := by simp [keyCells]
theorem keyCells_one (l : List Key) : ∀ u ∈ keyCells l, u.oneCell' = true := by
  intro u hu
  obtain ⟨k, _, hk⟩ := List.mem_flatMap.1 hu
  simp only [kcells, List.mem_cons, List.not_mem_nil, or_false] at hk
  rcases hk with rfl | rfl | rfl <;> rfl
theorem keyCells_get {l : List Key} {i : Nat} {k : Key} (h : l[i]? = some k) : ∀ j, j < 3 → (keyCells l)[i * 3 + j]? = (kcells k)[j]? := by
  induction l generalizing i with
  | nil => simp at h
  | cons x l ih =>
    intro j hj
    simp only [keyCells, List.flatMap_cons]
    cases i with
    | zero =>
      simp at h
      subst h
      rw [Nat.zero_mul, Nat.zero_add, List.getElem?_append_left (by simp [kcells]; omega)]
    | succ i =>
      rw [List.getElem?_append_right (by simp [kcells]; omega)]
      have := ih (i := i) (by simpa using h) j hj
      unfold keyCells at this
      rw [← this]
      congr 1
      simp [kcells]
      omega

/-- Keys in a slice of the call's own. -/
def OwnedK (w : World) (l : List Key) (e : Ending) (w' : World) : Prop :=
  ∃ A c, e = .returned (.slice A l.length c) ∧ E.Ext w w' ∧ w'.ownsRow w.heap.size 28 3 (.slice A l.length c) l.length (keyCells l)

/-- The three cells of the key at k. -/
theorem key_at {w : World} {A : Option Addr} {c : Nat} {l : List Key} (h : Sl w 3 A l.length c (keyCells l)) {k : Nat} (hk : k < l.length) :
    ∃ b o, A = some ⟨b, o, none⟩ ∧ w.cell? ⟨b, o + k * 3, none⟩ = some (.int .i64 l[k].stamp) ∧ w.cell? ⟨b, o + k * 3 + 1, none⟩ = some (.int .i64 l[k].sensor) ∧ w.cell? ⟨b, o + k * 3 + 2, none⟩ = some (.int .i64 l[k].seq) := by
  have hg : l[k]? = some l[k] := List.getElem?_eq_getElem hk
  obtain ⟨b, o, rfl, _, hc⟩ := h.cells (by
    intro e
    have := h.len
    rw [e] at this
    simp only [List.length_nil] at this
    omega)
  refine ⟨b, o, rfl, ?_, ?_, ?_⟩
  · exact hc (k * 3) _ (keyCells_get hg 0 (by omega))
  · rw [Nat.add_assoc]; exact hc (k * 3 + 1) _ (keyCells_get hg 1 (by omega))
  · rw [Nat.add_assoc]; exact hc (k * 3 + 2) _ (keyCells_get hg 2 (by omega))

theorem take_eq_succ {l l' : List Key} {k : Nat} (h : k < l.length) (h' : k < l'.length) (e : l.take k = l'.take k) : l.take (k + 1) = l'.take (k + 1) ↔ l[k] = l'[k] := by
  rw [List.take_succ_eq_append_getElem h, List.take_succ_eq_append_getElem h', e]
  exact ⟨fun h => by have := List.append_cancel_left h; simpa using this, fun h => by rw [h]⟩

set_option maxHeartbeats 800000 in
theorem sameKeys_any (l l' : List Key) (A A' : Option Addr) (c c' : Nat) (w : World) (h : Sl w 3 A l.length c (keyCells l)) (h' : Sl w 3 A' l'.length c' (keyCells l')) (hl : l.length ≤ 1099511627776) (hl' : l'.length ≤ 1099511627776) :
    Calls Try.prog 30 #[.slice A l.length c, .slice A' l'.length c'] w fun e w' => e = .returned (.bool (decide (l = l'))) ∧ E.Ext w w' := by
  have hb : ((l.length : Int) == (l'.length : Int)) = decide (l.length = l'.length) := by
    rw [Bool.eq_iff_iff, beq_iff_eq, decide_eq_true_eq]; omega
  by_cases hlen : l.length = l'.length
  · have hb1 : ((l.length : Int) == (l'.length : Int)) = true := by rw [hb]; simpa using hlen
    have HL := Lib.hid hlen
    clear hb hlen
    go_enter Try.func30, Try.ntmps30
    go_wp2
    go_loopw [5, 6] (fun s v wr => ∃ (k : Nat) (sb : Bool), s = .bool sb ∧ v = .int .i64 k ∧ k ≤ l.length ∧ E.Ext w wr ∧ (sb = true ↔ l.take k = l'.take k)) (fun _ v _ => l.length - (intOf v).toNat)
    case atStart => exact ⟨0, true, rfl, rfl, Nat.zero_le _, E.Ext.refl _, by simp⟩
    case round =>
      obtain ⟨k, sb, rfl, rfl, hk, hx, hs⟩ := hrel
      cases sb with
      | false =>
        have HS := Lib.hid (show ¬ l.take k = l'.take k from fun e => by have := hs.2 e; cases this)
        clear hs
        go_wp2
        go_ret
        refine ⟨?_, hx⟩
        have : ¬ l = l' := fun e => HS.out (by rw [e])
        simp [this]
      | true =>
        have HS := Lib.hid (hs.1 rfl)
        clear hs
        by_cases hlt : k < l.length
        · have hlt' : k < l'.length := by have := HL.out; omega
          obtain ⟨b, o, rfl, k0, k1, k2⟩ := key_at (h.ext hx) hlt
          obtain ⟨b', o', rfl, m0, m1, m2⟩ := key_at (h'.ext hx) hlt'
          have hk1 := fun w' x y xs ys => guardKey w' x y xs ys
          by_cases heq : l[k] = l'[k]
          · have hk2 := eqKey_yes heq
            have HE := Lib.hid heq
            clear heq
            dsimp only [Key.val] at hk2
            go_wp2
            refine E.wp_plan E.ext_pre 1000000 [(0, true), (1, true), (2, true), (3, true), (4, true), (5, true), (6, true), (7, true), (8, true), (9, true)] (by kernel_rfl) (by kernel_rfl) ?_
            repeat (first | (refine E.plan_pure (by simp only [List.getElem?_toArray, List.getElem?_cons_succ, List.getElem?_cons_zero]; rfl) (by rfl) (fun K hK => ?_); (go_simp; try go_bits; try go_simp); refine hK _ ?_; clear hK K) | (refine E.plan_load (by simp only [List.getElem?_toArray, List.getElem?_cons_succ, List.getElem?_cons_zero]; rfl) (by rfl) (by rfl) (fun K hK => ?_); (go_simp; try go_bits; try go_simp); refine hK _ ?_; clear hK K) | (refine E.plan_skip (E.Ext.refl _) (by simp only [List.getElem?_toArray, List.getElem?_cons_succ, List.getElem?_cons_zero]; rfl) (by rfl) (fun K hK => ?_); (go_simp; try go_bits; try go_simp); refine hK _ ?_; clear hK K))
            refine E.plan_nil ?_
            go_wp2
            go_roundw
            case rel => exact ⟨k + 1, true, rfl, by go_num, by omega, hx.trans (E.Ext.drew _), by simp only [true_iff]; exact (take_eq_succ hlt hlt' (HS.out)).2 HE.out⟩
            case measure => simp [intOf]; omega
          · have hk2 := eqKey_no heq
            have HE := Lib.hid heq
            clear heq
            dsimp only [Key.val] at hk2
            go_wp2
            refine E.wp_plan E.ext_pre 1000000 [(0, true), (1, true), (2, true), (3, true), (4, true), (5, true), (6, true), (7, true), (8, true), (9, true)] (by kernel_rfl) (by kernel_rfl) ?_
            repeat (first | (refine E.plan_pure (by simp only [List.getElem?_toArray, List.getElem?_cons_succ, List.getElem?_cons_zero]; rfl) (by rfl) (fun K hK => ?_); (go_simp; try go_bits; try go_simp); refine hK _ ?_; clear hK K) | (refine E.plan_load (by simp only [List.getElem?_toArray, List.getElem?_cons_succ, List.getElem?_cons_zero]; rfl) (by rfl) (by rfl) (fun K hK => ?_); (go_simp; try go_bits; try go_simp); refine hK _ ?_; clear hK K) | (refine E.plan_skip (E.Ext.refl _) (by simp only [List.getElem?_toArray, List.getElem?_cons_succ, List.getElem?_cons_zero]; rfl) (by rfl) (fun K hK => ?_); (go_simp; try go_bits; try go_simp); refine hK _ ?_; clear hK K))
            refine E.plan_nil ?_
            go_wp2
            go_roundw
            case rel => exact ⟨k + 1, false, rfl, by go_num, by omega, hx.trans (E.Ext.drew _), by simp only [Bool.false_eq_true, false_iff]; exact fun e => HE.out ((take_eq_succ hlt hlt' (HS.out)).1 e)⟩
            case measure => simp [intOf]; omega
        · go_wp2
          go_ret
          refine ⟨?_, hx⟩
          have : l = l' := by
            have h1 := HS.out
            have h2 := HL.out
            rwa [List.take_of_length_le (by omega), List.take_of_length_le (by omega)] at h1
          simp [this]
  · have hb1 : ((l.length : Int) == (l'.length : Int)) = false := by rw [hb]; simpa using hlen
    have hne : ¬ l = l' := fun e => hlen (by rw [e])
    have HN := Lib.hid hne
    clear hb hlen hne
    go_enter Try.func30, Try.ntmps30
    go_wp2
    refine wp_loop_rounds 1 ?_
    rw [rounds_succ]
    go_wp2
    go_ret
    exact ⟨by simp [HN.out], E.Ext.refl _⟩
end Go.Proofs.Ytedpkficechjnaa.KI
