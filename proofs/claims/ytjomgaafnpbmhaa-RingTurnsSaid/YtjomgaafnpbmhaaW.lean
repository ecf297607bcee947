/- The document's ring: New, Get, Drop, Keys, Until, Twin. -/
import Derived.Test.YtjomgaafnpbmhaaV
namespace Go.Proofs.Ytjomgaafnpbmhaa.W
open Go.RowKit
open Go.Proofs.Ytjomgaafnpbmhaa
open Go.Proofs.Ytjomgaafnpbmhaa.A Go.Proofs.Ytjomgaafnpbmhaa.K Go.Proofs.Ytjomgaafnpbmhaa.B Go.Proofs.Ytjomgaafnpbmhaa.C Go.Proofs.Ytjomgaafnpbmhaa.D Go.Proofs.Ytjomgaafnpbmhaa.F Go.Proofs.Ytjomgaafnpbmhaa.G Go.Proofs.Ytjomgaafnpbmhaa.H Go.Proofs.Ytjomgaafnpbmhaa.I Go.Proofs.Ytjomgaafnpbmhaa.J Go.Proofs.Ytjomgaafnpbmhaa.O Go.Proofs.Ytjomgaafnpbmhaa.P Go.Proofs.Ytjomgaafnpbmhaa.R Go.Proofs.Ytjomgaafnpbmhaa.V
set_option linter.unusedVariables false
set_option linter.unusedSimpArgs false
variable {F : Nat → Prop}

def RefMade (w : World) (n : Nat) (e : Ending) (w' : World) : Prop :=
  ∃ rb, e = .returned (.tuple #[.pointer (some ⟨rb, 0, none⟩), .int .i64 0]) ∧ RefAt (fun _ => True) w' rb n [] ∧ w.heap.size ≤ rb ∧ E.Ext w w'
theorem refNew_any (n : Nat) (w : World) (h1 : 1 ≤ n) (h2 : n ≤ 200) : Calls Try.prog 13 #[.int .i64 n] w (RefMade w n) := by
  go_enter Try.func13, Try.ntmps13
  go_wp2
  go_ret2
  exact ⟨w.heap.size, rfl, ⟨[], none, 0, rfl, E.Blk.new _ _ _, ⟨rfl, Nat.le_refl _, by omega, .inl ⟨rfl, rfl⟩, fun h => absurd rfl h⟩, fun r h => by cases h⟩, Nat.le_refl _, E.Ext.alloc _ _⟩
theorem refNew_no (n : Int) (w : World) (h : n < 1 ∨ 200 < n) : Calls Try.prog 13 #[.int .i64 n] w fun e w' => e = .returned (.tuple #[.pointer none, .int .i64 2]) ∧ w = w' := by
  by_cases h0 : n < 1
  · clear h
    go_enter Try.func13, Try.ntmps13
    go_wp2
    go_ret2
    exact ⟨rfl, rfl⟩
  · have h1 : 200 < n := by omega
    clear h
    go_enter Try.func13, Try.ntmps13
    go_wp2
    go_ret2
    exact ⟨rfl, rfl⟩
theorem new_no' (n : Int) (w : World) (h : n < 1 ∨ 200 < n) : Calls Try.prog 7 #[.int .i64 n] w fun e w' => e = .returned (.tuple #[.pointer none, .int .i64 2]) ∧ w = w' := by
  by_cases h0 : n < 1
  · clear h
    go_enter Try.func7, Try.ntmps7
    go_wp2
    go_ret2
    exact ⟨rfl, rfl⟩
  · have h1 : 200 < n := by omega
    clear h
    go_enter Try.func7, Try.ntmps7
    go_wp2
    go_ret2
    exact ⟨rfl, rfl⟩

set_option maxHeartbeats 800000 in
theorem refGet_yes (rb K : Nat) (l : List Entry) (i : Nat) (x : Entry) (w : World) (hr : RefAt F w rb K l) (hi : l[i]? = some x) (hd : x.data.length ≤ 1099511627776) :
    Calls Try.prog 38 #[.pointer (some ⟨rb, 0, none⟩), .int .i64 i] w (Got w (some x)) := by
  have hil : i < l.length := (List.getElem?_eq_some_iff.1 hi).1
  have hr1 := hr.ext (E.Ext.alloc w (.cells #[.int .i64 0, .int .i64 0, .int .i64 0, .bool false, .slice none 0 0] 30))
  obtain ⟨A, c, b, o, A', c', hB, hcap, hmax, rfl, c0, c1, c2, c3, c4, hsl⟩ := hr1.at_ hi
  obtain ⟨cb, fb⟩ := hB.facts
  clear hi hr
  go_enter Try.func38, Try.ntmps38
  go_wp2_with fail
  refine (own_any x A' c' _ hsl hd).mono ?_
  rintro e w2 ⟨A2, c2', rfl, hx2, ho2⟩
  have H1 := E.blk0 hx2 rfl
  obtain ⟨cH1, fH1⟩ := H1.facts
  dsimp only [Entry.val]
  go_wp2
  have hE : E.Ext w w2 := (E.Ext.alloc _ _).trans hx2
  refine bodyPost_ret (v := .tuple #[x.val A2 c2', .int .i64 0]) (by simp [results, Try.results38, go_sem, cH1, Entry.val]) rfl ⟨A2, c2', rfl, ?_, ?_⟩
  · repeat (refine E.Ext.setCell ?_ (by simp <;> omega) _)
    exact hE
  · simp only [World.size_alloc] at ho2
    refine own_mono (base := w.heap.size + 1) ?_ (by omega)
    repeat (refine own_set ?_ (by simp <;> omega) _)
    exact ho2

set_option maxHeartbeats 800000 in
theorem refGet_no (rb K : Nat) (l : List Entry) (i : Int) (w : World) (hr : RefAt F w rb K l) (hi : i < 0 ∨ (l.length : Int) ≤ i) :
    Calls Try.prog 38 #[.pointer (some ⟨rb, 0, none⟩), .int .i64 i] w (Got w none) := by
  have hr1 := hr.ext (E.Ext.alloc w (.cells #[.int .i64 0, .int .i64 0, .int .i64 0, .bool false, .slice none 0 0] 30))
  obtain ⟨A, c, hB, hcap, hmax⟩ := hr1.blk
  obtain ⟨cb, fb⟩ := hB.facts
  by_cases h0 : i < 0
  · clear hi
    go_enter Try.func38, Try.ntmps38
    go_wp2
    refine bodyPost_ret (v := .tuple #[.agg #[.int .i64 0, .int .i64 0, .int .i64 0, .bool false, .slice none 0 0], .int .i64 4]) (by simp [results, Try.results38, go_sem]) rfl ⟨rfl, E.Ext.alloc _ _⟩
  · have h1 : (l.length : Int) ≤ i := by omega
    clear hi
    go_enter Try.func38, Try.ntmps38
    go_wp2
    refine bodyPost_ret (v := .tuple #[.agg #[.int .i64 0, .int .i64 0, .int .i64 0, .bool false, .slice none 0 0], .int .i64 4]) (by simp [results, Try.results38, go_sem]) rfl ⟨rfl, E.Ext.alloc _ _⟩

set_option maxHeartbeats 800000 in
theorem refKeys_any (rb K : Nat) (l : List Entry) (w : World) (hr : RefAt F w rb K l) (hl : l.length ≤ 200) :
    Calls Try.prog 18 #[.pointer (some ⟨rb, 0, none⟩)] w (OwnedK w (l.map Entry.key)) := by
  go_enter Try.func18, Try.ntmps18
  go_wp2_with fail
  go_loopw [3, 4] (fun o v wr => ∃ (k : Nat) (A : Option Addr) (c : Nat), v = .int .i64 k ∧ o = .slice A k c ∧ k ≤ l.length ∧ E.Ext w wr ∧ wr.ownsRow w.heap.size 57 3 (.slice A k c) k (keyCells ((l.take k).map Entry.key))) (fun _ v _ => l.length - (intOf v).toNat)
  case atStart => exact ⟨0, none, 0, rfl, rfl, Nat.zero_le _, E.Ext.refl _, World.ownsRow_nil _ _ _ _⟩
  case round =>
    obtain ⟨k, A, c, rfl, rfl, hk, hx, hown⟩ := hrel
    have hrr := hr.ext hx
    by_cases hlt : k < l.length
    · obtain ⟨y, hy⟩ : ∃ y, l[k]? = some y := ⟨l[k], List.getElem?_eq_getElem hlt⟩
      obtain ⟨A0, c0', b, o, A', c', hB, hcap, hmax, rfl, c0, c1, c2, c3, c4, hsl'⟩ := hrr.at_ hy
      obtain ⟨cb, fb⟩ := hB.facts
      have HY := Lib.hid hy
      clear hy
      go_wp2_with fail
      refine (of14_any y A' c' _).mono ?_
      rintro e w2 ⟨rfl, hx2⟩
      dsimp only [Key.val, Entry.key]
      have hx12 := hx.trans hx2
      have hown2 := own_ext (own_ext hown hx2) (E.Ext.alloc w2 (.cells #[.int .i64 y.stamp, .int .i64 y.sensor, .int .i64 y.seq] 57))
      have hsl := Sl.blk (size := 3) (n := 1) (c := 1) (E.Blk.new w2 57 #[.int .i64 y.stamp, .int .i64 y.sensor, .int .i64 y.seq]) rfl (by omega) (by omega)
      have hsz := hx12.size
      go_wp2_with (at_builtin; refine wpList_append_sl st47 rfl _ _ rfl w.heap.size _ k _ rfl hown2 _ 1 1 _ rfl hsl (keyCells_one [y.key]) (by omega) (by decide) (by simp; omega) ?_; intro v' w3 hown3 hb3 _; obtain ⟨A3, c3, hv3, _⟩ := own_sl hown3; rw [hv3] at hown3 ⊢)
      go_roundw
      case rel => exact ⟨k + 1, A3, c3, by go_num, rfl, by omega, (hx12.trans (E.Ext.alloc _ _)).then hb3, by rw [take_snoc_key _ _ _ HY.out, keyCells_snoc]; exact hown3⟩
      case measure => simp [intOf]; omega
    · obtain ⟨A0, c0', hB, hcap, hmax⟩ := hrr.blk
      obtain ⟨cb, fb⟩ := hB.facts
      go_wp2_with fail
      go_ret
      have hkk : k = l.length := by omega
      subst hkk
      rw [List.take_length] at hown
      have hl : (l.map Entry.key).length = l.length := by simp
      exact ⟨A, c, by rw [hl]; rfl, hx, by rw [hl]; exact hown⟩

theorem cnt_succ {q : Entry → Bool} {l : List Entry} {k : Nat} (h : ∀ (j : Nat) y, j < k → l[j]? = some y → q y = true) (he : l.length ≤ k ∨ ∃ y, l[k]? = some y ∧ q y = false) (hk : k ≤ l.length) : cnt q l = k := by
  have ha : cnt q l ≤ k := by
    rcases Nat.lt_or_ge k (cnt q l) with h1 | h1
    · rcases he with h2 | ⟨y, h2, h3⟩
      · have := cnt_le q l; omega
      · rw [cnt_lt h2 h1] at h3; cases h3
    · exact h1
  rcases Nat.lt_or_ge (cnt q l) k with h1 | h1
  · have hx : l[cnt q l]? = some (l[cnt q l]'(by omega)) := List.getElem?_eq_getElem (by omega)
    have h2 := cnt_at hx
    rw [h _ _ h1 hx] at h2
    cases h2
  · omega

set_option maxHeartbeats 800000 in
theorem refUntil_any (rb K : Nat) (l : List Entry) (t : Int) (w : World) (hr : RefAt F w rb K l) (hl : l.length ≤ 200) :
    Calls Try.prog 39 #[.pointer (some ⟨rb, 0, none⟩), .int .i64 t] w fun e w' => e = .returned (.int .i64 (cnt (fun y => decide (y.stamp ≤ t)) l)) ∧ E.Ext w w' := by
  go_enter Try.func39, Try.ntmps39
  go_wp2_with fail
  go_loopw [5] (fun v wr => ∃ k : Nat, v = .int .i64 k ∧ k ≤ l.length ∧ E.Ext w wr ∧ ∀ (j : Nat) y, j < k → l[j]? = some y → decide (y.stamp ≤ t) = true) (fun v _ => l.length - (intOf v).toNat)
  case atStart => exact ⟨0, rfl, Nat.zero_le _, E.Ext.refl _, fun j y h => by omega⟩
  case round =>
    obtain ⟨k, rfl, hk, hx, hno⟩ := hrel
    have HNO := Lib.hid hno
    clear hno
    have hrr := hr.ext hx
    by_cases hlt : k < l.length
    · obtain ⟨y, hy⟩ : ∃ y, l[k]? = some y := ⟨l[k], List.getElem?_eq_getElem hlt⟩
      obtain ⟨A0, c0', b, o, A', c', hB, hcap, hmax, rfl, c0, c1, c2, c3, c4, hsl'⟩ := hrr.at_ hy
      obtain ⟨cb, fb⟩ := hB.facts
      have HY := Lib.hid hy
      clear hy
      by_cases h1 : y.stamp ≤ t
      · go_wp2_with fail
        go_roundw
        case rel => exact ⟨k + 1, by go_num, by omega, hx, fun j z hj hz => by
          by_cases hjk : j = k
          · subst hjk
            rw [HY.out] at hz
            cases hz
            simpa using h1
          · exact HNO.out j z (by omega) hz⟩
        case measure => simp [intOf]; omega
      · go_wp2_with fail
        go_ret
        refine ⟨?_, hx⟩
        show Ending.returned (.int .i64 (k : Int)) = _
        rw [cnt_succ HNO.out (Or.inr ⟨y, HY.out, by simpa using h1⟩) hk]
    · obtain ⟨A0, c0', hB, hcap, hmax⟩ := hrr.blk
      obtain ⟨cb, fb⟩ := hB.facts
      go_wp2_with fail
      go_ret
      refine ⟨?_, hx⟩
      show Ending.returned (.int .i64 (k : Int)) = _
      rw [cnt_succ HNO.out (Or.inl (by omega)) hk]

set_option maxHeartbeats 800000 in
theorem refTwin_any (rb K : Nat) (l : List Entry) (s q : Int) (w : World) (hr : RefAt F w rb K l) (hl : l.length ≤ 200) :
    Calls Try.prog 40 #[.pointer (some ⟨rb, 0, none⟩), .int .i64 s, .int .i64 q] w fun e w' => e = .returned (.int .i64 (twin l s q)) ∧ E.Ext w w' := by
  go_enter Try.func40, Try.ntmps40
  go_wp2_with fail
  go_loopw [7] (fun v wr => ∃ k : Nat, v = .int .i64 k ∧ k ≤ l.length ∧ E.Ext w wr ∧ ∀ i y, i < k → l[i]? = some y → ¬ (y.sensor = s ∧ y.seq = q)) (fun v _ => l.length - (intOf v).toNat)
  case atStart => exact ⟨0, rfl, Nat.zero_le _, E.Ext.refl _, fun i y hi => by omega⟩
  case round =>
    obtain ⟨k, rfl, hk, hx, hno⟩ := hrel
    have HNO := Lib.hid hno
    clear hno
    have hrr := hr.ext hx
    by_cases hlt : k < l.length
    · obtain ⟨y, hy⟩ : ∃ y, l[k]? = some y := ⟨l[k], List.getElem?_eq_getElem hlt⟩
      obtain ⟨A0, c0', b, o, A', c', hB, hcap, hmax, rfl, c0, c1, c2, c3, c4, hsl'⟩ := hrr.at_ hy
      obtain ⟨cb, fb⟩ := hB.facts
      have HY := Lib.hid hy
      clear hy
      by_cases h1 : y.sensor = s
      · have H1 := Lib.hid h1
        have hb1 : (y.sensor == s) = true := by simpa using h1
        clear h1
        by_cases h2 : y.seq = q
        · have H2 := Lib.hid h2
          have hb2 : (y.seq == q) = true := by simpa using h2
          clear h2
          go_wp2_with fail
          go_ret
          refine ⟨?_, hx⟩
          show Ending.returned (.int .i64 (k : Int)) = _
          unfold twin
          rw [twinFrom_found l 0 k y HY.out ⟨H1.out, H2.out⟩ HNO.out, Nat.zero_add]
        · have H2 := Lib.hid h2
          have hb2 : (y.seq == q) = false := by simpa using h2
          clear h2
          go_wp2_with fail
          go_roundw
          case rel => exact ⟨k + 1, by go_num, by omega, hx, twin_step HNO.out HY.out (fun h => H2.out h.2)⟩
          case measure => simp [intOf]; omega
      · have H1 := Lib.hid h1
        have hb1 : (y.sensor == s) = false := by simpa using h1
        clear h1
        go_wp2_with fail
        go_roundw
        case rel => exact ⟨k + 1, by go_num, by omega, hx, twin_step HNO.out HY.out (fun h => H1.out h.1)⟩
        case measure => simp [intOf]; omega
    · obtain ⟨A0, c0', hB, hcap, hmax⟩ := hrr.blk
      obtain ⟨cb, fb⟩ := hB.facts
      go_wp2_with fail
      go_ret
      refine ⟨?_, hx⟩
      show Ending.returned (.int .i64 (-1)) = _
      unfold twin
      rw [twinFrom_none l 0 (fun j z hz => HNO.out j z (by have := (List.getElem?_eq_some_iff.1 hz).1; omega) hz)]

/-- What is dropped. -/
def RefDropped (F : Nat → Prop) (w : World) (rb K : Nat) (x : Entry) (m : List Entry) (e : Ending) (w' : World) : Prop :=
  ∃ A c, e = .returned (.tuple #[x.val A c, .int .i64 0]) ∧ E.ExtS (fun k => k = rb) w w' ∧ w'.ownsRow w.heap.size 3 1 (.slice A x.data.length c) x.data.length (ints x.data) ∧ RefAt F w' rb K m

set_option maxHeartbeats 800000 in
theorem refDrop_no (rb K : Nat) (w : World) (hr : RefAt F w rb K []) : Calls Try.prog 37 #[.pointer (some ⟨rb, 0, none⟩)] w (Got w none) := by
  have hr1 := hr.ext (E.Ext.alloc w (.cells #[.int .i64 0, .int .i64 0, .int .i64 0, .bool false, .slice none 0 0] 30))
  go_enter Try.func37, Try.ntmps37
  go_wp2_with fail
  refine (refGet_no rb K [] 0 _ hr1 (Or.inr (by simp))).mono ?_
  rintro e w2 ⟨rfl, hx2⟩
  have H1 := E.blk0 hx2 rfl
  have hsz := H1.lt
  obtain ⟨cH1, fH1⟩ := H1.facts
  have H2 := E.Blk.new w2 30 #[.int .i64 0, .int .i64 0, .int .i64 0, .bool false, .slice none 0 0]
  obtain ⟨cH2, fH2⟩ := H2.facts
  go_wp2_with fail
  have cH3 := ((((((H1.set 0 (.int .i64 0)).set 1 (.int .i64 0)).set 2 (.int .i64 0)).set 3 (.bool false)).set 4 (.slice none 0 0)).alloc (.cells #[.int .i64 0, .int .i64 0, .int .i64 0, .bool false, .slice none 0 0] 30)).cell
  refine bodyPost_ret (v := .tuple #[.agg #[.int .i64 0, .int .i64 0, .int .i64 0, .bool false, .slice none 0 0], .int .i64 4]) (by simp [results, Try.results37, go_sem, cH3]) rfl ⟨rfl, ?_⟩
  refine E.Ext.trans ?_ (E.Ext.alloc _ _)
  repeat (refine E.Ext.setCell ?_ (by simp) _)
  exact (E.Ext.alloc _ _).trans hx2
end Go.Proofs.Ytjomgaafnpbmhaa.W
