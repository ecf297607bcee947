/- The ring: New, Until, Twin, Len, Get. -/
import Derived.Test.YtjomgaafnpbmhaaG
namespace Go.Proofs.Ytjomgaafnpbmhaa.H
open Go.RowKit
open Go.Proofs.Ytjomgaafnpbmhaa
open Go.Proofs.Ytjomgaafnpbmhaa.A Go.Proofs.Ytjomgaafnpbmhaa.K Go.Proofs.Ytjomgaafnpbmhaa.B Go.Proofs.Ytjomgaafnpbmhaa.C Go.Proofs.Ytjomgaafnpbmhaa.D Go.Proofs.Ytjomgaafnpbmhaa.F Go.Proofs.Ytjomgaafnpbmhaa.G
set_option linter.unusedVariables false
set_option linter.unusedSimpArgs false
variable {F : Nat → Prop}

theorem Try_info69 : (Try.prog.info? 69).map (fun i => (i.zero, i.size, i.bytes)) = some (some (.pointer none), 1, 8) := by kernel_rfl
theorem st64 : ST1 Try.prog 64 69 8 (.pointer none) := by
  obtain ⟨i, hi, h1, h2, h3⟩ := info_parts Try_info69
  exact ⟨i, Try.underlying64, hi, h1, h2, h3, rfl⟩

def Made (w : World) (n : Nat) (e : Ending) (w' : World) : Prop :=
  ∃ b pb, e = .returned (.tuple #[.pointer (some ⟨b, 0, none⟩), .int .i64 0]) ∧ RingAt (fun _ => True) w' b pb ⟨n, 0, []⟩ ∧ w.heap.size ≤ b ∧ w.heap.size ≤ pb ∧ E.Ext w w'

set_option maxHeartbeats 400000 in
theorem new_any (n : Nat) (w : World) (h1 : 1 ≤ n) (h2 : n ≤ 200) : Calls Try.prog 7 #[.int .i64 n] w (Made w n) := by
  have hmk := run_make1 st64 n (by decide) (by omega)
  go_enter Try.func7, Try.ntmps7
  go_wp2
  go_ret2
  exact ⟨w.heap.size + 1, w.heap.size, rfl, ⟨⟨h1, h2, h1, Nat.zero_le _⟩, (by have h := E.Blk.new (w.alloc (.cells (madeCells #[.pointer none] n) 69)) 66 #[.slice (some ⟨w.heap.size, 0, none⟩) n n, .int .i64 0, .int .i64 0]; simp only [World.size_alloc] at h; exact h), _, fun _ => 0, size_madeCells _ _, (E.Blk.new _ _ _).alloc _, fun i x hi => by simp at hi⟩, by omega, Nat.le_refl _, (E.Ext.alloc _ _).trans (E.Ext.alloc _ _)⟩

set_option maxHeartbeats 400000 in
theorem until_any (b pb : Nat) (r : RingD) (t : Int) (w : World) (hr : RingAt F w b pb r) (hs : Sorted r.l) :
    Calls Try.prog 9 #[.pointer (some ⟨b, 0, none⟩), .int .i64 t] w fun e w' => e = .returned (.int .i64 (cnt (fun y => decide (y.stamp ≤ t)) r.l)) ∧ E.Ext w w' := by
  have HT := Lib.hid (turns_stamp hs t)
  clear hs
  have hK := hr.ok.pos
  go_enter Try.func9, Try.ntmps9
  go_wp2_with (go_at_call 28; refine (none_any b pb r _ (hr.struct.alloc _) hK).mono ?_; rintro e w' ⟨rfl, rfl⟩)
  refine (find_unt b pb r (fun y => decide (y.stamp ≤ t)) (.pointer (some ⟨w.heap.size, 0, none⟩)) _ (hr.ext (E.Ext.alloc _ _)) HT.out (fun W hW y A c => unt1_any y A c t _ W ((E.Blk.new _ _ _).ext hW))).mono ?_
  rintro e w2 ⟨rfl, hx2⟩
  go_wp2
  go_ret
  exact ⟨rfl, (E.Ext.alloc _ _).trans hx2⟩

set_option maxHeartbeats 400000 in
theorem len_any (b pb : Nat) (r : RingD) (w : World) (hr : RingAt F w b pb r) :
    Calls Try.prog 11 #[.pointer (some ⟨b, 0, none⟩)] w fun e w' => e = .returned (.int .i64 r.l.length) ∧ w = w' := by
  have hK := hr.ok.pos
  have hst := hr.struct
  obtain ⟨cb, fb⟩ := hr.struct.facts
  go_enter Try.func11, Try.ntmps11
  go_wp2_with (go_at_call 28; refine (none_any b pb r _ hst hK).mono ?_; rintro e w' ⟨rfl, rfl⟩)
  go_ret
  exact ⟨rfl, rfl⟩

/-- An entry as a result, with a list of its own, beside an error. -/
def Got (w : World) (x : Option Entry) (e : Ending) (w' : World) : Prop :=
  match x with
  | some x => ∃ A c, e = .returned (.tuple #[x.val A c, .int .i64 0]) ∧ E.Ext w w' ∧ w'.ownsRow w.heap.size 3 1 (.slice A x.data.length c) x.data.length (ints x.data)
  | none => e = .returned (.tuple #[.agg #[.int .i64 0, .int .i64 0, .int .i64 0, .bool false, .slice none 0 0], .int .i64 4]) ∧ E.Ext w w'

set_option maxHeartbeats 800000 in
theorem get_yes (b pb : Nat) (r : RingD) (i : Nat) (x : Entry) (w : World) (hr : RingAt F w b pb r) (hi : r.l[i]? = some x) (hd : x.data.length ≤ 1099511627776) :
    Calls Try.prog 12 #[.pointer (some ⟨b, 0, none⟩), .int .i64 i] w (Got w (some x)) := by
  have hK := hr.ok.pos
  have hmost := hr.ok.most
  have hmany := hr.ok.many
  have hil : i < r.l.length := (List.getElem?_eq_some_iff.1 hi).1
  have HI := Lib.hid hi
  clear hi
  have hr1 := hr.ext (E.Ext.alloc w (.cells #[.int .i64 0, .int .i64 0, .int .i64 0, .bool false, .slice none 0 0] 30))
  obtain ⟨cb, fb⟩ := hr1.struct.facts
  go_enter Try.func12, Try.ntmps12
  go_wp2_with (go_at_call 28; refine (none_any b pb r _ hr1.struct hK).mono ?_; rintro e w' ⟨rfl, rfl⟩)
  refine (at_any b pb r i _ hr1.struct hr.ok (by omega)).mono ?_
  rintro e w1 ⟨rfl, hx1⟩
  have H1 := E.blk0 hx1 rfl
  have hr2 := hr1.ext hx1
  obtain ⟨_, hb3, ps, hps1, hps, hpl⟩ := hr2.get
  obtain ⟨g, hg, A, c, hge, hgo, _⟩ := hpl i x HI.out
  have cps := hps.cell
  have cge := hge.cell
  go_wp2_with fail
  obtain ⟨A', c', hv, hsl⟩ := own_sl hgo
  have hcc : A' = A ∧ c' = c := by injection hv with h1 _ h3; exact ⟨h1.symm, h3.symm⟩
  obtain ⟨rfl, rfl⟩ := hcc
  refine (copied_any x A' c' _ hsl hd).mono ?_
  rintro e w2 ⟨A2, c2, rfl, hx2, ho2⟩
  obtain ⟨cH1, fH1⟩ := (H1.ext hx2).facts
  dsimp only [Entry.val]
  go_wp2
  have hE : E.Ext w w2 := ((E.Ext.alloc _ _).trans hx1).trans hx2
  refine bodyPost_ret (v := .tuple #[x.val A2 c2, .int .i64 0]) (by simp [results, Try.results12, go_sem, cH1, Entry.val]) rfl ⟨A2, c2, rfl, ?_, ?_⟩
  · repeat (refine E.Ext.setCell ?_ (by simp <;> omega) _)
    exact hE
  · have hsz : w.heap.size < w1.heap.size := H1.lt
    refine own_mono (base := w1.heap.size) ?_ (by omega)
    repeat (refine own_set ?_ (by simp <;> omega) _)
    exact ho2

set_option maxHeartbeats 800000 in
theorem get_no (b pb : Nat) (r : RingD) (i : Int) (w : World) (hr : RingAt F w b pb r) (hi : i < 0 ∨ (r.l.length : Int) ≤ i) :
    Calls Try.prog 12 #[.pointer (some ⟨b, 0, none⟩), .int .i64 i] w (Got w none) := by
  have hK := hr.ok.pos
  have hr1 := hr.ext (E.Ext.alloc w (.cells #[.int .i64 0, .int .i64 0, .int .i64 0, .bool false, .slice none 0 0] 30))
  obtain ⟨cb, fb⟩ := hr1.struct.facts
  by_cases h0 : i < 0
  · clear hi
    go_enter Try.func12, Try.ntmps12
    go_wp2_with (go_at_call 28; refine (none_any b pb r _ hr1.struct hK).mono ?_; rintro e w' ⟨rfl, rfl⟩)
    refine bodyPost_ret (v := .tuple #[.agg #[.int .i64 0, .int .i64 0, .int .i64 0, .bool false, .slice none 0 0], .int .i64 4]) (by simp [results, Try.results12, go_sem]) rfl ⟨rfl, E.Ext.alloc _ _⟩
  · have h1 : (r.l.length : Int) ≤ i := by omega
    clear hi
    go_enter Try.func12, Try.ntmps12
    go_wp2_with (go_at_call 28; refine (none_any b pb r _ hr1.struct hK).mono ?_; rintro e w' ⟨rfl, rfl⟩)
    refine bodyPost_ret (v := .tuple #[.agg #[.int .i64 0, .int .i64 0, .int .i64 0, .bool false, .slice none 0 0], .int .i64 4]) (by simp [results, Try.results12, go_sem]) rfl ⟨rfl, E.Ext.alloc _ _⟩

/-- The place of a sensor's number. -/
def twinFrom (s q : Int) : List Entry → Nat → Int
  | [], _ => -1
  | y :: l, i => if y.sensor = s ∧ y.seq = q then (i : Int) else twinFrom s q l (i + 1)
def twin (l : List Entry) (s q : Int) : Int := twinFrom s q l 0
theorem twinFrom_found {s q : Int} : ∀ (l : List Entry) (i k : Nat) (y : Entry), l[k]? = some y → y.sensor = s ∧ y.seq = q → (∀ (j : Nat) (z : Entry), j < k → l[j]? = some z → ¬ (z.sensor = s ∧ z.seq = q)) → twinFrom s q l i = ((i + k : Nat) : Int)
  | [], _, _, _, h, _, _ => by simp at h
  | z :: l, i, 0, y, h, hy, _ => by
    simp at h
    subst h
    simp [twinFrom, hy]
  | z :: l, i, k + 1, y, h, hy, hno => by
    have h0 := hno 0 z (by omega) rfl
    rw [twinFrom, if_neg h0, twinFrom_found l (i + 1) k y (by simpa using h) hy (fun j x hj hx => hno (j + 1) x (by omega) (by simpa using hx))]
    congr 1
    omega
theorem twinFrom_none {s q : Int} : ∀ (l : List Entry) (i : Nat), (∀ (j : Nat) (z : Entry), l[j]? = some z → ¬ (z.sensor = s ∧ z.seq = q)) → twinFrom s q l i = -1
  | [], _, _ => rfl
  | z :: l, i, hno => by
    have h0 := hno 0 z rfl
    rw [twinFrom, if_neg h0, twinFrom_none l (i + 1) (fun j x hx => hno (j + 1) x (by simpa using hx))]

theorem twin_step {l : List Entry} {k : Nat} {y : Entry} {s q : Int} (hno : ∀ (i : Nat) (y : Entry), i < k → l[i]? = some y → ¬ (y.sensor = s ∧ y.seq = q)) (hy : l[k]? = some y) (hn : ¬ (y.sensor = s ∧ y.seq = q)) : ∀ i y, i < k + 1 → l[i]? = some y → ¬ (y.sensor = s ∧ y.seq = q) := by
  intro i z hi hz
  by_cases h : i = k
  · subst h
    rw [hy] at hz
    cases hz
    exact hn
  · exact hno i z (by omega) hz

set_option maxHeartbeats 800000 in
theorem twin_any (b pb : Nat) (r : RingD) (s q : Int) (w : World) (hr : RingAt F w b pb r) :
    Calls Try.prog 10 #[.pointer (some ⟨b, 0, none⟩), .int .i64 s, .int .i64 q] w fun e w' => e = .returned (.int .i64 (twin r.l s q)) ∧ E.Ext w w' := by
  have hK := hr.ok.pos
  have hmost := hr.ok.most
  have hmany := hr.ok.many
  obtain ⟨cb, fb⟩ := hr.struct.facts
  have hst := hr.struct
  go_enter Try.func10, Try.ntmps10
  go_wp2_with (go_at_call 28; refine (none_any b pb r _ hst hK).mono ?_; rintro e w' ⟨rfl, rfl⟩)
  go_loopw [15] (fun v wr => ∃ k : Nat, v = .int .i64 k ∧ k ≤ r.l.length ∧ E.Ext w wr ∧ ∀ i y, i < k → r.l[i]? = some y → ¬ (y.sensor = s ∧ y.seq = q)) (fun v _ => r.l.length - (intOf v).toNat)
  case atStart => exact ⟨0, rfl, Nat.zero_le _, E.Ext.refl _, fun i y hi => by omega⟩
  case round =>
    obtain ⟨k, rfl, hk, hx, hno⟩ := hrel
    have HNO := Lib.hid hno
    clear hno
    have hrr := hr.ext hx
    by_cases hlt : k < r.l.length
    · obtain ⟨y, hy⟩ : ∃ y, r.l[k]? = some y := ⟨r.l[k], List.getElem?_eq_getElem hlt⟩
      have HY := Lib.hid hy
      clear hy
      go_wp2_with fail
      refine (at_any b pb r k _ hrr.struct hr.ok (by omega)).mono ?_
      rintro e w1 ⟨rfl, hx1⟩
      obtain ⟨_, hb3, ps, hps1, hps, hpl⟩ := (hrr.ext hx1).get
      obtain ⟨g, hg, A, c, hge, hgo, _⟩ := hpl k y HY.out
      have cps := hps.cell
      have cge := hge.cell
      by_cases h1 : y.sensor = s
      · have H1 := Lib.hid h1
        have hb1 : (y.sensor == s) = true := by simpa using h1
        clear h1
        by_cases h2 : y.seq = q
        · have H2 := Lib.hid h2
          have hb2 : (y.seq == q) = true := by simpa using h2
          clear h2
          go_wp2_with fail
          go_ret
          refine ⟨?_, hx.trans hx1⟩
          show Ending.returned (.int .i64 (k : Int)) = _
          unfold twin
          rw [twinFrom_found r.l 0 k y HY.out ⟨H1.out, H2.out⟩ HNO.out, Nat.zero_add]
        · have H2 := Lib.hid h2
          have hb2 : (y.seq == q) = false := by simpa using h2
          clear h2
          go_wp2_with fail
          go_roundw
          case rel => exact ⟨k + 1, by go_num, by omega, hx.trans hx1, twin_step HNO.out HY.out (fun h => H2.out h.2)⟩
          case measure => simp [intOf]; omega
      · have H1 := Lib.hid h1
        have hb1 : (y.sensor == s) = false := by simpa using h1
        clear h1
        go_wp2_with fail
        go_roundw
        case rel => exact ⟨k + 1, by go_num, by omega, hx.trans hx1, twin_step HNO.out HY.out (fun h => H1.out h.1)⟩
        case measure => simp [intOf]; omega
    · go_wp2_with fail
      go_ret
      refine ⟨?_, hx⟩
      show Ending.returned (.int .i64 (-1)) = _
      unfold twin
      rw [twinFrom_none r.l 0 (fun j z hz => HNO.out j z (by have := (List.getElem?_eq_some_iff.1 hz).1; omega) hz)]
end Go.Proofs.Ytjomgaafnpbmhaa.H
