/- Lists and entries side by side; copies; what is written over. -/
import Derived.Test.YtjomgaafnpbmhaaJ
namespace Go.Proofs.Ytjomgaafnpbmhaa.O
open Go.RowKit
open Go.Proofs.Ytjomgaafnpbmhaa
open Go.Proofs.Ytjomgaafnpbmhaa.A Go.Proofs.Ytjomgaafnpbmhaa.K Go.Proofs.Ytjomgaafnpbmhaa.B Go.Proofs.Ytjomgaafnpbmhaa.C Go.Proofs.Ytjomgaafnpbmhaa.D Go.Proofs.Ytjomgaafnpbmhaa.F Go.Proofs.Ytjomgaafnpbmhaa.G Go.Proofs.Ytjomgaafnpbmhaa.H Go.Proofs.Ytjomgaafnpbmhaa.I Go.Proofs.Ytjomgaafnpbmhaa.J
set_option linter.unusedVariables false
set_option linter.unusedSimpArgs false
variable {F : Nat → Prop}

theorem int_at {w : World} {A : Option Addr} {c : Nat} {l : List Int} (h : Sl w 1 A l.length c (ints l)) {k : Nat} (hk : k < l.length) :
    ∃ b o, A = some ⟨b, o, none⟩ ∧ w.cell? ⟨b, o + k, none⟩ = some (.int .i64 l[k]) := by
  obtain ⟨b, o, rfl, _, hc⟩ := h.cells (by
    intro e
    have := congrArg List.length e
    simp [ints] at this
    rw [this] at hk
    simp at hk)
  exact ⟨b, o, rfl, hc k _ (by simp [ints, List.getElem?_eq_getElem hk])⟩

theorem take_eq_int {l l' : List Int} {k : Nat} (h : k < l.length) (h' : k < l'.length) (e : l.take k = l'.take k) : l.take (k + 1) = l'.take (k + 1) ↔ l[k] = l'[k] := by
  rw [List.take_succ_eq_append_getElem h, List.take_succ_eq_append_getElem h', e]
  exact ⟨fun h => by have := List.append_cancel_left h; simpa using this, fun h => by rw [h]⟩

set_option maxHeartbeats 800000 in
theorem sameInts_any (l l' : List Int) (A A' : Option Addr) (c c' : Nat) (w : World) (h : Sl w 1 A l.length c (ints l)) (h' : Sl w 1 A' l'.length c' (ints l')) :
    Calls Try.prog 49 #[.slice A l.length c, .slice A' l'.length c'] w fun e w' => e = .returned (.bool (decide (l = l'))) ∧ E.Ext w w' := by
  have hb : ((l.length : Int) != (l'.length : Int)) = decide (l.length ≠ l'.length) := by
    rw [Bool.eq_iff_iff, bne_iff_ne, decide_eq_true_eq]; omega
  have hcap := h.cap
  have hmax := h.max
  by_cases hlen : l.length = l'.length
  · have hb1 : ((l.length : Int) != (l'.length : Int)) = false := by rw [hb]; simpa using hlen
    have HL := Lib.hid hlen
    clear hb hlen
    go_enter Try.func49, Try.ntmps49
    go_wp2
    go_loopw [5] (fun v wr => ∃ (k : Nat), v = .int .i64 k ∧ k ≤ l.length ∧ E.Ext w wr ∧ l.take k = l'.take k) (fun v _ => l.length - (intOf v).toNat)
    case atStart => exact ⟨0, rfl, Nat.zero_le _, E.Ext.refl _, by simp⟩
    case round =>
      obtain ⟨k, rfl, hk, hx, hs⟩ := hrel
      have HS := Lib.hid hs
      clear hs
      by_cases hlt : k < l.length
      · have hlt' : k < l'.length := by have := HL.out; omega
        obtain ⟨b, o, rfl, k0⟩ := int_at (h.ext hx) hlt
        obtain ⟨b', o', rfl, m0⟩ := int_at (h'.ext hx) hlt'
        by_cases heq : l[k] = l'[k]
        · have hk2 : (l[k] != l'[k]) = false := by simpa using heq
          have HE := Lib.hid heq
          clear heq
          go_wp2
          refine E.wp_plan E.ext_pre 1000000 [(0, true), (1, true), (2, true), (3, true), (4, true), (5, true), (6, true), (7, true), (8, true)] (by kernel_rfl) (by kernel_rfl) ?_
          repeat (first | (refine E.plan_pure (by simp only [List.getElem?_toArray, List.getElem?_cons_succ, List.getElem?_cons_zero]; rfl) (by rfl) (fun K hK => ?_); (go_simp; try go_bits; try go_simp); refine hK _ ?_; clear hK K) | (refine E.plan_load (by simp only [List.getElem?_toArray, List.getElem?_cons_succ, List.getElem?_cons_zero]; rfl) (by rfl) (by rfl) (fun K hK => ?_); (go_simp; try go_bits; try go_simp); refine hK _ ?_; clear hK K) | (refine E.plan_skip (E.Ext.refl _) (by simp only [List.getElem?_toArray, List.getElem?_cons_succ, List.getElem?_cons_zero]; rfl) (by rfl) (fun K hK => ?_); (go_simp; try go_bits; try go_simp); refine hK _ ?_; clear hK K))
          refine E.plan_nil ?_
          go_wp2
          go_roundw
          case rel => exact ⟨k + 1, by go_num, by omega, hx.trans (E.Ext.drew _), (take_eq_int hlt hlt' HS.out).2 HE.out⟩
          case measure => simp [intOf]; omega
        · have hk2 : (l[k] != l'[k]) = true := by simpa using heq
          have HE := Lib.hid heq
          clear heq
          go_wp2
          refine E.wp_plan E.ext_pre 1000000 [(0, true), (1, true), (2, true), (3, true), (4, true), (5, true), (6, true), (7, true), (8, true)] (by kernel_rfl) (by kernel_rfl) ?_
          repeat (first | (refine E.plan_pure (by simp only [List.getElem?_toArray, List.getElem?_cons_succ, List.getElem?_cons_zero]; rfl) (by rfl) (fun K hK => ?_); (go_simp; try go_bits; try go_simp); refine hK _ ?_; clear hK K) | (refine E.plan_load (by simp only [List.getElem?_toArray, List.getElem?_cons_succ, List.getElem?_cons_zero]; rfl) (by rfl) (by rfl) (fun K hK => ?_); (go_simp; try go_bits; try go_simp); refine hK _ ?_; clear hK K) | (refine E.plan_skip (E.Ext.refl _) (by simp only [List.getElem?_toArray, List.getElem?_cons_succ, List.getElem?_cons_zero]; rfl) (by rfl) (fun K hK => ?_); (go_simp; try go_bits; try go_simp); refine hK _ ?_; clear hK K))
          refine E.plan_nil ?_
          go_wp2
          go_ret
          have hne : ¬ l = l' := fun e => HE.out ((take_eq_int hlt hlt' HS.out).1 (by rw [e]))
          exact ⟨by simp [hne], hx.trans (E.Ext.drew _)⟩
      · go_wp2
        go_ret
        refine ⟨?_, hx⟩
        have : l = l' := by
          have h1 := HS.out
          have h2 := HL.out
          rwa [List.take_of_length_le (by omega), List.take_of_length_le (by omega)] at h1
        simp [this]
  · have hb1 : ((l.length : Int) != (l'.length : Int)) = true := by rw [hb]; simpa using hlen
    have hne : ¬ l = l' := fun e => hlen (by rw [e])
    have HN := Lib.hid hne
    clear hb hlen hne
    go_enter Try.func49, Try.ntmps49
    go_wp2
    go_ret
    exact ⟨by simp [HN.out], E.Ext.refl _⟩

theorem entry_eq (x y : Entry) : x = y ↔ x.stamp = y.stamp ∧ x.sensor = y.sensor ∧ x.seq = y.seq ∧ x.input = y.input ∧ x.data = y.data := by
  obtain ⟨a, b, c, d, e⟩ := x
  obtain ⟨a', b', c', d', e'⟩ := y
  simp

set_option maxHeartbeats 1600000 in
theorem sameEntry_any (x y : Entry) (A A' : Option Addr) (c c' : Nat) (w : World) (h : Sl w 1 A x.data.length c (ints x.data)) (h' : Sl w 1 A' y.data.length c' (ints y.data)) :
    Calls Try.prog 26 #[x.val A c, y.val A' c'] w fun e w' => e = .returned (.bool (decide (x = y))) ∧ E.Ext w w' := by
  unfold Entry.val
  have h2 := fun o1 o2 => (h.ext (E.Ext.alloc w o1)).ext (E.Ext.alloc _ o2)
  have h2' := fun o1 o2 => (h'.ext (E.Ext.alloc w o1)).ext (E.Ext.alloc _ o2)
  have hiff := entry_eq x y
  have HI := Lib.hid hiff
  clear hiff
  by_cases h0 : x.stamp = y.stamp
  · have b0 : (x.stamp == y.stamp) = true := by simpa using h0
    have H0 := Lib.hid h0
    clear h0
    by_cases h1 : x.sensor = y.sensor
    · have b1 : (x.sensor == y.sensor) = true := by simpa using h1
      have H1 := Lib.hid h1
      clear h1
      by_cases h3 : x.seq = y.seq
      · have b3 : (x.seq == y.seq) = true := by simpa using h3
        have H3 := Lib.hid h3
        clear h3
        by_cases h4 : x.input = y.input
        · have b4 : (x.input == y.input) = true := by simpa using h4
          have H4 := Lib.hid h4
          clear h4
          go_enter Try.func26, Try.ntmps26
          go_wp2_with fail
          refine (sameInts_any x.data y.data A A' c c' _ (h2 _ _) (h2' _ _)).mono ?_
          rintro e w1 ⟨rfl, hx⟩
          go_wp2_with fail
          go_ret
          refine ⟨?_, ((E.Ext.alloc _ _).trans (E.Ext.alloc _ _)).trans hx⟩
          show Ending.returned (.bool _) = _
          congr 2
          rw [Bool.eq_iff_iff, decide_eq_true_eq, decide_eq_true_eq, HI.out]
          exact ⟨fun h => ⟨H0.out, H1.out, H3.out, H4.out, h⟩, fun h => h.2.2.2.2⟩
        · have b4 : (x.input == y.input) = false := by simpa using h4
          have H4 := Lib.hid h4
          clear h4
          go_enter Try.func26, Try.ntmps26
          go_wp2_with fail
          go_ret
          have : ¬ x = y := fun e => H4.out (HI.out.1 e).2.2.2.1
          exact ⟨by simp [this], (E.Ext.alloc _ _).trans (E.Ext.alloc _ _)⟩
      · have b3 : (x.seq == y.seq) = false := by simpa using h3
        have H3 := Lib.hid h3
        clear h3
        go_enter Try.func26, Try.ntmps26
        go_wp2_with fail
        go_ret
        have : ¬ x = y := fun e => H3.out (HI.out.1 e).2.2.1
        exact ⟨by simp [this], (E.Ext.alloc _ _).trans (E.Ext.alloc _ _)⟩
    · have b1 : (x.sensor == y.sensor) = false := by simpa using h1
      have H1 := Lib.hid h1
      clear h1
      go_enter Try.func26, Try.ntmps26
      go_wp2_with fail
      go_ret
      have : ¬ x = y := fun e => H1.out (HI.out.1 e).2.1
      exact ⟨by simp [this], (E.Ext.alloc _ _).trans (E.Ext.alloc _ _)⟩
  · have b0 : (x.stamp == y.stamp) = false := by simpa using h0
    have H0 := Lib.hid h0
    clear h0
    go_enter Try.func26, Try.ntmps26
    go_wp2_with fail
    go_ret
    have : ¬ x = y := fun e => H0.out (HI.out.1 e).1
    exact ⟨by simp [this], (E.Ext.alloc _ _).trans (E.Ext.alloc _ _)⟩

set_option maxHeartbeats 400000 in
theorem copyInts_any (l : List Int) (A : Option Addr) (c : Nat) (w : World) (h : Sl w 1 A l.length c (ints l)) (hl : l.length ≤ 1099511627776) :
    Calls Try.prog 53 #[.slice A l.length c] w (Owned w l) := by
  have h1 : ∀ o, Sl (w.alloc o) 1 A l.length c (ints l) := fun o => h.ext (E.Ext.alloc w o)
  go_enter Try.func53, Try.ntmps53
  go_wp2_with (at_builtin; refine wpList_append_sl st28 rfl _ _ rfl w.heap.size _ 0 [] rfl (own_of_made) _ _ _ _ rfl (h1 _) (ints_one l) (by omega) (by decide) (by simp) ?_; intro v' w' hown hb _)
  obtain ⟨A', c', hv, _⟩ := own_sl hown
  rw [hv] at hown ⊢
  go_ret
  simp only [Nat.zero_add, List.nil_append] at hown ⊢
  exact ⟨A', c', rfl, (E.Ext.alloc w _).then hb, hown⟩

theorem copyEntry_any (x : Entry) (A : Option Addr) (c : Nat) (w : World) (h : Sl w 1 A x.data.length c (ints x.data)) (hl : x.data.length ≤ 1099511627776) :
    Calls Try.prog 34 #[x.val A c] w (OwnedE w x) := by
  unfold Entry.val
  go_enter Try.func34, Try.ntmps34
  go_wp2_with (go_at_call 53; refine (copyInts_any _ _ _ _ ((h.ext (E.Ext.alloc _ _)).ext (E.Ext.alloc _ _)) hl).mono ?_; rintro e w' ⟨A', c', rfl, hx, ho⟩; have H1 := E.blk1 hx rfl; have H2 := E.blk0 hx rfl; try simp only [World.size_alloc, World.size_drew] at H1 H2; obtain ⟨cH1, fH1⟩ := H1.facts; obtain ⟨cH2, fH2⟩ := H2.facts)
  have hE : E.Ext w w' := ((E.Ext.alloc _ _).trans (E.Ext.alloc _ _)).trans hx
  simp only [World.size_alloc] at ho
  refine bodyPost_ret (v := x.val A' c') (by simp [results, Try.results34, go_sem, cH1, cH2, Entry.val]) rfl ⟨A', c', rfl, ?_, ?_⟩
  · repeat (refine E.Ext.setCell ?_ (by simp <;> omega) _)
    exact hE
  · refine own_mono (base := w.heap.size + 1 + 1) ?_ (by omega)
    repeat (refine own_set ?_ (by simp <;> omega) _)
    exact ho

theorem less14_any (a b : Key) (w : World) : Calls Try.prog 54 #[a.val, b.val] w fun e w' => e = .returned (.bool (a.lt b)) ∧ E.Ext w w' := by
  have hlt := lt_iff a b
  have HL := Lib.hid hlt
  clear hlt
  unfold Key.val
  by_cases h0 : a.stamp = b.stamp
  · have b0 : (a.stamp != b.stamp) = false := by simpa using h0
    have H0 := Lib.hid h0
    clear h0
    by_cases h1 : a.sensor = b.sensor
    · have b1 : (a.sensor != b.sensor) = false := by simpa using h1
      have H1 := Lib.hid h1
      clear h1
      go_enter Try.func54, Try.ntmps54
      go_wp2
      go_ret
      refine ⟨?_, (E.Ext.alloc _ _).trans (E.Ext.alloc _ _)⟩
      show Ending.returned (.bool _) = _
      congr 2
      rw [Bool.eq_iff_iff, HL.out, decide_eq_true_eq]
      have := H0.out
      have := H1.out
      omega
    · have b1 : (a.sensor != b.sensor) = true := by simpa using h1
      have H1 := Lib.hid h1
      clear h1
      go_enter Try.func54, Try.ntmps54
      go_wp2
      go_ret
      refine ⟨?_, (E.Ext.alloc _ _).trans (E.Ext.alloc _ _)⟩
      show Ending.returned (.bool _) = _
      congr 2
      rw [Bool.eq_iff_iff, HL.out, decide_eq_true_eq]
      have := H0.out
      have := H1.out
      omega
  · have b0 : (a.stamp != b.stamp) = true := by simpa using h0
    have H0 := Lib.hid h0
    clear h0
    go_enter Try.func54, Try.ntmps54
    go_wp2
    go_ret
    refine ⟨?_, (E.Ext.alloc _ _).trans (E.Ext.alloc _ _)⟩
    show Ending.returned (.bool _) = _
    congr 2
    rw [Bool.eq_iff_iff, HL.out, decide_eq_true_eq]
    have := H0.out
    omega

theorem own_blk {w : World} {base : Nat} {e : TypeId} {size n : Nat} {v : Value} {xs : List Value} (h : w.ownsRow base e size v n xs) (hn : 0 < n) :
    ∃ g c cs, v = .slice (some ⟨g, 0, none⟩) n c ∧ base ≤ g ∧ E.Blk w g e cs ∧ n * size ≤ cs.size := by
  rcases h.2 with ⟨_, h0⟩ | ⟨g, cap, cur, rfl, hb, hg, hnc, _, hcs, _⟩
  · omega
  · exact ⟨g, cap, cur, rfl, hb, hg, by rw [hcs]; exact Nat.mul_le_mul_right _ hnc⟩

set_option maxHeartbeats 400000 in
theorem overInts_any (A : Option Addr) (n c base : Nat) (xs : List Value) (w : World) (h : w.ownsRow base 3 1 (.slice A n c) n xs) (hn : n ≤ 1099511627776) :
    Calls Try.prog 36 #[.slice A n c] w fun e w' => e = .returned (.tuple #[]) ∧ E.ExtS (fun k => (Value.slice A n c).ownBlock = some k) w w' := by
  rcases Nat.eq_zero_or_pos n with h0 | h0
  · subst h0
    go_enter Try.func36, Try.ntmps36
    go_wp2
    refine wp_loop_rounds 1 ?_
    rw [rounds_succ]
    go_wp2
    go_end0
    exact ⟨rfl, E.ExtS.refl _ _⟩
  · obtain ⟨g, c', cs, hv, _, hB, hsz⟩ := own_blk h h0
    have hcc : A = some ⟨g, 0, none⟩ ∧ c = c' := by injection hv with h1 _ h3; exact ⟨h1, h3⟩
    obtain ⟨rfl, rfl⟩ := hcc
    clear hv h
    go_enter Try.func36, Try.ntmps36
    go_wp2
    go_loopw [2] (fun v wr => ∃ (k : Nat) (cs' : Array Value), v = .int .i64 k ∧ k ≤ n ∧ E.Blk wr g 3 cs' ∧ n ≤ cs'.size ∧ E.ExtS (fun i => some g = some i) w wr) (fun v _ => n - (intOf v).toNat)
    case atStart => exact ⟨0, cs, rfl, Nat.zero_le _, hB, by omega, E.ExtS.refl _ _⟩
    case round =>
      obtain ⟨k, cs', rfl, hk, hB', hs', hx⟩ := hrel
      obtain ⟨cc, ff⟩ := hB'.facts
      by_cases hlt : k < n
      · have hold : cs'[k]? = some (cs'[k]'(by omega)) := Array.getElem?_eq_getElem (by omega)
        generalize cs'[k]'(by omega) = old at hold
        go_wp2
        go_roundw
        case rel => exact ⟨k + 1, _, by go_num, by omega, hB'.set k _, by simpa using hs', hx.set (p := ⟨g, k, none⟩) (Or.inl rfl) _⟩
        case measure => simp [intOf]; omega
      · go_wp2
        go_end0
        exact ⟨rfl, hx⟩
end Go.Proofs.Ytjomgaafnpbmhaa.O
