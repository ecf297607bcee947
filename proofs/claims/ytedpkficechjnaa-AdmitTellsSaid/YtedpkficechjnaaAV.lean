/- Copies of shelves; shelves side by side; Fits of both. -/
import Derived.Test.YtedpkficechjnaaAU
namespace Go.Proofs.Ytedpkficechjnaa.AV
open Go.RowKit
open Go.Proofs.Ytedpkficechjnaa
open Go.Proofs.Ytedpkficechjnaa.KA Go.Proofs.Ytedpkficechjnaa.K Go.Proofs.Ytedpkficechjnaa.KB Go.Proofs.Ytedpkficechjnaa.KI Go.Proofs.Ytedpkficechjnaa.KQ Go.Proofs.Ytedpkficechjnaa.S Go.Proofs.Ytedpkficechjnaa.KR Go.Proofs.Ytedpkficechjnaa.KS Go.Proofs.Ytedpkficechjnaa.KT Go.Proofs.Ytedpkficechjnaa.KO Go.Proofs.Ytedpkficechjnaa.AS Go.Proofs.Ytedpkficechjnaa.AT Go.Proofs.Ytedpkficechjnaa.AU
set_option linter.unusedVariables false
set_option linter.unusedSimpArgs false

theorem keyCells_take (l : List Key) (k : Nat) : keyCells (l.take k) = (keyCells l).take (k * 3) := by
  induction l generalizing k with
  | nil => simp [keyCells]
  | cons x l ih =>
    cases k with
    | zero => simp [keyCells]
    | succ k =>
      have h3 : (kcells x).length = 3 := rfl
      have := ih k
      simp only [keyCells, List.take_succ_cons, List.flatMap_cons] at *
      rw [this, List.take_append, h3, List.take_of_length_le (l := kcells x) (by rw [h3]; omega), show (k + 1) * 3 - 3 = k * 3 by omega]
theorem keyCells_drop (l : List Key) (k : Nat) : keyCells (l.drop k) = (keyCells l).drop (k * 3) := by
  induction l generalizing k with
  | nil => simp [keyCells]
  | cons x l ih =>
    cases k with
    | zero => simp [keyCells]
    | succ k =>
      have h3 : (kcells x).length = 3 := rfl
      have := ih k
      simp only [keyCells, List.drop_succ_cons, List.flatMap_cons] at *
      rw [this, List.drop_append, h3, List.drop_of_length_le (l := kcells x) (by rw [h3]; omega), List.nil_append, show (k + 1) * 3 - 3 = k * 3 by omega]
theorem ksl_take {w : World} {A : Option Addr} {c : Nat} {l : List Key} (h : Sl w 3 A l.length c (keyCells l)) {i : Nat} (hi : i ≤ l.length) : Sl w 3 A i c (keyCells (l.take i)) := by
  have hc := h.cap
  have h1 := h.cut (by decide) (k := 0) (m := i) (c' := c) (Nat.zero_le _) hi (by omega) (Nat.le_refl _)
  have e : (if c = 0 then A else A.map (·.add (0 * 3))) = A := by
    cases A with
    | none => simp
    | some ad => simp [Addr.add]
  rw [e] at h1
  simpa only [Nat.zero_mul, Nat.sub_zero, List.drop_zero, ← keyCells_take] using h1
theorem ksl_len {w : World} {A : Option Addr} {n c : Nat} {l : List Key} (h : Sl w 3 A n c (keyCells l)) : l.length = n := by
  have := h.len
  rw [keyCells_len] at this
  omega
theorem ksl_at {w : World} {A : Option Addr} {n c : Nat} {l : List Key} (h : Sl w 3 A n c (keyCells l)) : Sl w 3 A l.length c (keyCells l) := by rw [ksl_len h]; exact h

set_option maxHeartbeats 400000 in
theorem copyKeys_any (l : List Key) (A : Option Addr) (c : Nat) (w : World) (h : Sl w 3 A l.length c (keyCells l)) (hl : l.length ≤ 1099511627776) :
    Calls Try.prog 32 #[.slice A l.length c] w (OwnedK w l) := by
  have h1 : ∀ o, Sl (w.alloc o) 3 A l.length c (keyCells l) := fun o => h.ext (E.Ext.alloc w o)
  go_enter Try.func32, Try.ntmps32
  go_wp2_with (at_builtin; refine wpList_append_sl st47 rfl _ _ rfl w.heap.size _ 0 [] rfl (own_of_made) _ _ _ _ rfl (h1 _) (keyCells_one l) (by omega) (by decide) (by simp) ?_; intro v' w' hown hb _)
  obtain ⟨A', c', hv, _⟩ := own_sl hown
  rw [hv] at hown ⊢
  go_ret
  simp only [Nat.zero_add, List.nil_append] at hown ⊢
  exact ⟨A', c', rfl, (E.Ext.alloc w _).then hb, hown⟩
/-- A shelf alone as a result, with keys of its own. -/
def OwnedS1 (w : World) (x : Shelf) (e : Ending) (w' : World) : Prop :=
  ∃ A c, e = .returned (x.val A c) ∧ E.Ext w w' ∧ w'.ownsRow w.heap.size 28 3 (.slice A x.keys.length c) x.keys.length (keyCells x.keys)
theorem copyShelf_any (x : Shelf) (A : Option Addr) (c : Nat) (w : World) (h : Sl w 3 A x.keys.length c (keyCells x.keys)) (hl : x.keys.length ≤ 1099511627776) :
    Calls Try.prog 13 #[x.val A c] w (OwnedS1 w x) := by
  unfold Shelf.val
  go_enter Try.func13, Try.ntmps13
  go_wp2_with (go_at_call 32; refine (copyKeys_any _ _ _ _ ((h.ext (E.Ext.alloc _ _)).ext (E.Ext.alloc _ _)) hl).mono ?_; rintro e w' ⟨A', c', rfl, hx, ho⟩; have H1 := E.blk1 hx rfl; have H2 := E.blk0 hx rfl; try simp only [World.size_alloc, World.size_drew] at H1 H2; obtain ⟨cH1, fH1⟩ := H1.facts; obtain ⟨cH2, fH2⟩ := H2.facts)
  have hE : E.Ext w w' := ((E.Ext.alloc _ _).trans (E.Ext.alloc _ _)).trans hx
  simp only [World.size_alloc] at ho
  refine bodyPost_ret (v := x.val A' c') (by simp [results, Try.results13, go_sem, cH1, cH2, Shelf.val]) rfl ⟨A', c', rfl, ?_, ?_⟩
  · repeat (refine E.Ext.setCell ?_ (by simp <;> omega) _)
    exact hE
  · refine own_mono (base := w.heap.size + 1 + 1) ?_ (by omega)
    repeat (refine own_set ?_ (by simp <;> omega) _)
    exact ho

theorem shelf_eq (x y : Shelf) : x = y ↔ x.base = y.base ∧ x.clean = y.clean ∧ x.keys = y.keys := by
  obtain ⟨a, b, c⟩ := x
  obtain ⟨a', b', c'⟩ := y
  simp only [Shelf.mk.injEq]
  exact ⟨fun h => ⟨h.1, h.2.2, h.2.1⟩, fun h => ⟨h.1, h.2.2, h.2.1⟩⟩
set_option maxHeartbeats 800000 in
theorem sameShelf_same (x : Shelf) (A A' : Option Addr) (c c' : Nat) (w : World) (h : Sl w 3 A x.keys.length c (keyCells x.keys)) (h' : Sl w 3 A' x.keys.length c' (keyCells x.keys)) (hl : x.keys.length ≤ 1099511627776) :
    Calls Try.prog 19 #[x.val A c, x.val A' c'] w fun e w' => e = .returned (.bool true) ∧ E.Ext w w' := by
  unfold Shelf.val
  have h2 := fun o1 o2 => (h.ext (E.Ext.alloc w o1)).ext (E.Ext.alloc _ o2)
  have h2' := fun o1 o2 => (h'.ext (E.Ext.alloc w o1)).ext (E.Ext.alloc _ o2)
  go_enter Try.func19, Try.ntmps19
  go_wp2_with fail
  refine (sameKeys_any x.keys x.keys A A' c c' _ (h2 _ _) (h2' _ _) hl hl).mono ?_
  rintro e w1 ⟨rfl, hx⟩
  go_wp2_with fail
  go_ret
  exact ⟨by simp, ((E.Ext.alloc _ _).trans (E.Ext.alloc _ _)).trans hx⟩

theorem not_fits {s : Setup} {x : Shelf} (h : checkB s = false ∨ win x.base 0 1099511627776 = false ∨ ¬ (x.keys.length : Int) ≤ s.keep ∨ win x.clean 0 x.keys.length = false ∨ upB x.keys = false ∨ ∃ (i : Nat) (k : Key), x.keys[i]? = some k ∧ (win k.stamp x.base 1099511627776 = false ∨ twinB (x.keys.take i) k = true)) : fitsE s x = 2 := by
  refine fits_no (fun hf => ?_)
  obtain ⟨h1, h2, h3⟩ := hf
  have hu := upB_iff.2 h2
  unfold shapeB at h1
  simp only [Bool.and_eq_true, decide_eq_true_eq] at h1
  obtain ⟨a, b, c, d⟩ := h1
  rcases h with h | h | h | h | h | ⟨i, k, hk, h | h⟩
  · rw [h] at a; cases a
  · rw [h] at b; cases b
  · exact h c
  · rw [h] at d; cases d
  · rw [h] at hu; cases hu
  · have := h3 i k hk
    unfold seatB at this
    rw [h] at this
    simp at this
  · have := h3 i k hk
    unfold seatB at this
    rw [h] at this
    simp at this
theorem is_fits {s : Setup} {x : Shelf} (h1 : checkB s = true) (h2 : win x.base 0 1099511627776 = true) (h3 : (x.keys.length : Int) ≤ s.keep) (h4 : win x.clean 0 x.keys.length = true) (h5 : upB x.keys = true) (h6 : seatsP x) : fitsE s x = 0 := by
  refine fits_yes ⟨?_, upB_iff.1 h5, h6⟩
  unfold shapeB
  simp [h1, h2, h3, h4]

set_option maxRecDepth 8000 in
set_option maxHeartbeats 3200000 in
theorem fits_any (s : Setup) (x : Shelf) (A : Option Addr) (c : Nat) (w : World) (h : Sl w 3 A x.keys.length c (keyCells x.keys)) (hl : x.keys.length ≤ 1099511627776) :
    Calls Try.prog 9 #[s.val, x.val A c] w fun e w' => e = .returned (.int .i64 (fitsE s x)) ∧ E.Ext w w' := by
  have hcap := h.cap
  have hmax := h.max
  have hx0 := (E.Ext.alloc w (.cells #[.int .i64 s.keep, .int .i64 s.horizon, .int .i64 s.ahead, .int .i64 s.budget, .int .i64 s.window] 23)).trans (E.Ext.alloc _ (.cells #[.int .i64 x.base, .slice A x.keys.length c, .int .i64 x.clean] 26))
  unfold Shelf.val Setup.val
  go_enter Try.func9, Try.ntmps9
  go_wp2_with fail
  refine (check_any s _).mono ?_
  rintro e w1 ⟨rfl, hx1⟩
  have H1 := E.blk1 hx1 rfl
  have H2 := E.blk0 hx1 rfl
  simp only [World.size_alloc] at H2
  obtain ⟨c1, f1⟩ := H1.facts
  obtain ⟨c2, f2⟩ := H2.facts
  have hx01 := hx0.trans hx1
  cases h1 : checkB s with
  | false =>
    have HN := Lib.hid (not_fits (s := s) (x := x) (Or.inl h1))
    go_wp2_with fail
    go_ret
    exact ⟨by rw [HN.out]; rfl, hx01⟩
  | true =>
    go_wp2_with fail
    refine (within_any _ _ _ _).mono ?_
    rintro e w' ⟨rfl, rfl⟩
    cases h2 : win x.base 0 1099511627776 with
    | false =>
      have HN := Lib.hid (not_fits (s := s) (x := x) (Or.inr (Or.inl h2)))
      go_wp2_with fail
      go_ret
      exact ⟨by rw [HN.out]; rfl, hx01⟩
    | true =>
      by_cases h3 : (x.keys.length : Int) ≤ s.keep
      · go_wp2_with fail
        refine (rising_any x.keys A c _ (h.ext hx01) hl).mono ?_
        rintro e w2 ⟨rfl, hx2⟩
        clear c1 f1 c2 f2
        replace H1 := H1.ext hx2
        replace H2 := H2.ext hx2
        obtain ⟨c1, f1⟩ := H1.facts
        obtain ⟨c2, f2⟩ := H2.facts
        have hx02 := hx01.trans hx2
        cases h5 : upB x.keys with
        | false =>
          have HN := Lib.hid (not_fits (s := s) (x := x) (Or.inr (Or.inr (Or.inr (Or.inr (Or.inl h5))))))
          go_wp2_with fail
          go_ret
          exact ⟨by rw [HN.out]; rfl, hx02⟩
        | true =>
          go_wp2_with fail
          refine (within_any _ _ _ _).mono ?_
          rintro e w' ⟨rfl, rfl⟩
          cases h4 : win x.clean 0 x.keys.length with
          | false =>
            have HN := Lib.hid (not_fits (s := s) (x := x) (Or.inr (Or.inr (Or.inr (Or.inl h4)))))
            go_wp2_with fail
            go_ret
            exact ⟨by rw [HN.out]; rfl, hx02⟩
          | true =>
            go_wp2_with fail
            go_loopw [42] (fun v wr => ∃ i : Nat, v = .int .i64 i ∧ i ≤ x.keys.length ∧ E.Ext w2 wr ∧ ∀ (j : Nat) k, j < i → x.keys[j]? = some k → seatB x j k = true) (fun v _ => x.keys.length - (intOf v).toNat)
            case atStart => exact ⟨0, rfl, Nat.zero_le _, E.Ext.refl _, fun j k hj => by omega⟩
            case round =>
              clear c1 f1 c2 f2
              obtain ⟨i, rfl, hi, hx, hno⟩ := hrel
              have HNO := Lib.hid hno
              clear hno
              by_cases hlt : i < x.keys.length
              · obtain ⟨b, o, rfl, k0, k1, k2⟩ := key_at (h.ext (hx02.trans hx)) (k := i) hlt
                have hki : x.keys[i]? = some x.keys[i] := List.getElem?_eq_getElem hlt
                have HKI := Lib.hid hki
                clear hki
                have T := E.Blk.new wr 28 #[.int .i64 x.keys[i].stamp, .int .i64 x.keys[i].sensor, .int .i64 x.keys[i].seq]
                have hxk := E.Ext.alloc wr (.cells #[.int .i64 x.keys[i].stamp, .int .i64 x.keys[i].sensor, .int .i64 x.keys[i].seq] 28)
                obtain ⟨cT, fT⟩ := (T.drew).facts
                obtain ⟨c1, f1⟩ := (((H1.ext hx).ext hxk).drew).facts
                obtain ⟨c2, f2⟩ := (((H2.ext hx).ext hxk).drew).facts
                have hsl := ((ksl_at (ksl_take (h.ext (hx02.trans hx)) hi)).ext hxk).ext (E.Ext.drew _)
                have hslen : (x.keys.take i).length = i := by rw [List.length_take]; omega
                have hic : i ≤ c := by omega
                have htw := twin_any (x.keys.take i) (some ⟨b, o, none⟩) c x.keys[i] _ hsl (by omega)
                rw [hslen] at htw
                have HTW := Lib.hid htw
                clear hslen htw hsl
                cases h6 : win x.keys[i].stamp x.base 1099511627776 with
                | false =>
                  have H6 := Lib.hid h6
                  clear h6
                  have HN := Lib.hid (not_fits (s := s) (x := x) (Or.inr (Or.inr (Or.inr (Or.inr (Or.inr ⟨i, _, HKI.out, Or.inl H6.out⟩))))))
                  go_wp2_with fail
                  refine E.wp_plan E.ext_pre 1000000 [(0, true), (1, true), (2, true), (3, true), (4, false), (5, true), (6, true), (7, true), (8, true), (9, true), (10, true), (11, true), (12, false), (13, true)] (by kernel_rfl) (by kernel_rfl) ?_
                  repeat (first | (refine E.plan_pure (by simp only [List.getElem?_toArray, List.getElem?_cons_succ, List.getElem?_cons_zero]; rfl) (by rfl) (fun K hK => ?_); (go_simp; try go_bits; try go_simp); refine hK _ ?_; clear hK K) | (refine E.plan_load (by simp only [List.getElem?_toArray, List.getElem?_cons_succ, List.getElem?_cons_zero]; rfl) (by rfl) (by rfl) (fun K hK => ?_); (go_simp; try go_bits; try go_simp); refine hK _ ?_; clear hK K) | (refine E.plan_skip (E.Ext.refl _) (by simp only [List.getElem?_toArray, List.getElem?_cons_succ, List.getElem?_cons_zero]; rfl) (by rfl) (fun K hK => ?_); (go_simp; try go_bits; try go_simp); refine hK _ ?_; clear hK K))
                  refine E.plan_eff (by simp only [List.getElem?_toArray, List.getElem?_cons_succ, List.getElem?_cons_zero]; rfl) (by rfl) (fun K hK => ?_); (go_simp; try go_bits)
                  refine (within_any _ _ _ _).mono ?_; rintro e w' ⟨rfl, rfl⟩; refine hK _ _ (E.Ext.refl _) ?_; clear hK K
                  rw [H6.out]
                  repeat (first | (refine E.plan_pure (by simp only [List.getElem?_toArray, List.getElem?_cons_succ, List.getElem?_cons_zero]; rfl) (by rfl) (fun K hK => ?_); (go_simp; try go_bits; try go_simp); refine hK _ ?_; clear hK K) | (refine E.plan_load (by simp only [List.getElem?_toArray, List.getElem?_cons_succ, List.getElem?_cons_zero]; rfl) (by rfl) (by rfl) (fun K hK => ?_); (go_simp; try go_bits; try go_simp); refine hK _ ?_; clear hK K) | (refine E.plan_skip (E.Ext.refl _) (by simp only [List.getElem?_toArray, List.getElem?_cons_succ, List.getElem?_cons_zero]; rfl) (by rfl) (fun K hK => ?_); (go_simp; try go_bits; try go_simp); refine hK _ ?_; clear hK K))
                  refine E.plan_nil ?_
                  go_wp2_with fail
                  go_ret
                  exact ⟨by rw [HN.out]; rfl, hx02.trans (hx.trans (hxk.trans (E.Ext.drew _)))⟩
                | true =>
                  have H6 := Lib.hid h6
                  clear h6
                  go_wp2_with fail
                  refine E.wp_plan E.ext_pre 1000000 [(0, true), (1, true), (2, true), (3, true), (4, false), (5, true), (6, true), (7, true), (8, true), (9, true), (10, true), (11, true), (12, false), (13, true)] (by kernel_rfl) (by kernel_rfl) ?_
                  repeat (first | (refine E.plan_pure (by simp only [List.getElem?_toArray, List.getElem?_cons_succ, List.getElem?_cons_zero]; rfl) (by rfl) (fun K hK => ?_); (go_simp; try go_bits; try go_simp); refine hK _ ?_; clear hK K) | (refine E.plan_load (by simp only [List.getElem?_toArray, List.getElem?_cons_succ, List.getElem?_cons_zero]; rfl) (by rfl) (by rfl) (fun K hK => ?_); (go_simp; try go_bits; try go_simp); refine hK _ ?_; clear hK K) | (refine E.plan_skip (E.Ext.refl _) (by simp only [List.getElem?_toArray, List.getElem?_cons_succ, List.getElem?_cons_zero]; rfl) (by rfl) (fun K hK => ?_); (go_simp; try go_bits; try go_simp); refine hK _ ?_; clear hK K))
                  refine E.plan_eff (by simp only [List.getElem?_toArray, List.getElem?_cons_succ, List.getElem?_cons_zero]; rfl) (by rfl) (fun K hK => ?_); (go_simp; try go_bits)
                  refine (within_any _ _ _ _).mono ?_; rintro e w' ⟨rfl, rfl⟩; refine hK _ _ (E.Ext.refl _) ?_; clear hK K
                  rw [H6.out]
                  repeat (first | (refine E.plan_pure (by simp only [List.getElem?_toArray, List.getElem?_cons_succ, List.getElem?_cons_zero]; rfl) (by rfl) (fun K hK => ?_); (go_simp; try go_bits; try go_simp); refine hK _ ?_; clear hK K) | (refine E.plan_load (by simp only [List.getElem?_toArray, List.getElem?_cons_succ, List.getElem?_cons_zero]; rfl) (by rfl) (by rfl) (fun K hK => ?_); (go_simp; try go_bits; try go_simp); refine hK _ ?_; clear hK K) | (refine E.plan_skip (E.Ext.refl _) (by simp only [List.getElem?_toArray, List.getElem?_cons_succ, List.getElem?_cons_zero]; rfl) (by rfl) (fun K hK => ?_); (go_simp; try go_bits; try go_simp); refine hK _ ?_; clear hK K))
                  refine E.plan_eff (by simp only [List.getElem?_toArray, List.getElem?_cons_succ, List.getElem?_cons_zero]; rfl) (by rfl) (fun K hK => ?_); (go_simp; try go_bits)
                  refine (HTW.out).mono ?_; rintro e w3 ⟨rfl, hx3⟩; refine hK _ _ hx3 ?_; clear hK K
                  cases h7 : twinB (x.keys.take i) x.keys[i] with
                  | true =>
                    have HN := Lib.hid (not_fits (s := s) (x := x) (Or.inr (Or.inr (Or.inr (Or.inr (Or.inr ⟨i, _, HKI.out, Or.inr h7⟩))))))
                    clear h7
                    repeat (first | (refine E.plan_pure (by simp only [List.getElem?_toArray, List.getElem?_cons_succ, List.getElem?_cons_zero]; rfl) (by rfl) (fun K hK => ?_); (go_simp; try go_bits; try go_simp); refine hK _ ?_; clear hK K) | (refine E.plan_load (by simp only [List.getElem?_toArray, List.getElem?_cons_succ, List.getElem?_cons_zero]; rfl) (by rfl) (by rfl) (fun K hK => ?_); (go_simp; try go_bits; try go_simp); refine hK _ ?_; clear hK K) | (refine E.plan_skip (E.Ext.refl _) (by simp only [List.getElem?_toArray, List.getElem?_cons_succ, List.getElem?_cons_zero]; rfl) (by rfl) (fun K hK => ?_); (go_simp; try go_bits; try go_simp); refine hK _ ?_; clear hK K))
                    refine E.plan_nil ?_
                    go_wp2_with fail
                    go_ret
                    exact ⟨by rw [HN.out]; rfl, hx02.trans (hx.trans ((hxk.trans (E.Ext.drew _)).trans hx3))⟩
                  | false =>
                    have H7 := Lib.hid h7
                    clear h7
                    repeat (first | (refine E.plan_pure (by simp only [List.getElem?_toArray, List.getElem?_cons_succ, List.getElem?_cons_zero]; rfl) (by rfl) (fun K hK => ?_); (go_simp; try go_bits; try go_simp); refine hK _ ?_; clear hK K) | (refine E.plan_load (by simp only [List.getElem?_toArray, List.getElem?_cons_succ, List.getElem?_cons_zero]; rfl) (by rfl) (by rfl) (fun K hK => ?_); (go_simp; try go_bits; try go_simp); refine hK _ ?_; clear hK K) | (refine E.plan_skip (E.Ext.refl _) (by simp only [List.getElem?_toArray, List.getElem?_cons_succ, List.getElem?_cons_zero]; rfl) (by rfl) (fun K hK => ?_); (go_simp; try go_bits; try go_simp); refine hK _ ?_; clear hK K))
                    refine E.plan_nil ?_
                    go_wp2_with fail
                    go_roundw
                    case rel => exact ⟨i + 1, by go_num, by omega, hx.trans ((hxk.trans (E.Ext.drew _)).trans hx3), fun j k hj hk => by
                      by_cases hji : j = i
                      · subst hji
                        rw [HKI.out] at hk
                        cases hk
                        unfold seatB
                        rw [H6.out, H7.out]
                        rfl
                      · exact HNO.out j k (by omega) hk⟩
                    case measure => simp [intOf]; omega
              · have HN := Lib.hid (is_fits (s := s) (x := x) h1 h2 h3 h4 h5 (fun j k hk => HNO.out j k (by have := (List.getElem?_eq_some_iff.1 hk).1; omega) hk))
                go_wp2_with fail
                go_ret
                exact ⟨by rw [HN.out]; rfl, hx02.trans hx⟩
      · have HN := Lib.hid (not_fits (s := s) (x := x) (Or.inr (Or.inr (Or.inl h3))))
        go_wp2_with fail
        go_ret
        exact ⟨by rw [HN.out]; rfl, hx01⟩
end Go.Proofs.Ytedpkficechjnaa.AV
