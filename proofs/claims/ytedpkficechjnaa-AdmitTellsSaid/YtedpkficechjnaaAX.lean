/- Judge of both. -/
import Derived.Test.YtedpkficechjnaaAW
import Derived.Laws.EntriesVeiled
namespace Go.Proofs.Ytedpkficechjnaa.AX
open Go.RowKit
open Go.Proofs.Ytedpkficechjnaa
open Go.Proofs.Ytedpkficechjnaa.KA Go.Proofs.Ytedpkficechjnaa.K Go.Proofs.Ytedpkficechjnaa.KB Go.Proofs.Ytedpkficechjnaa.KI Go.Proofs.Ytedpkficechjnaa.KQ Go.Proofs.Ytedpkficechjnaa.S Go.Proofs.Ytedpkficechjnaa.KR Go.Proofs.Ytedpkficechjnaa.KS Go.Proofs.Ytedpkficechjnaa.KT Go.Proofs.Ytedpkficechjnaa.KO Go.Proofs.Ytedpkficechjnaa.AS Go.Proofs.Ytedpkficechjnaa.AT Go.Proofs.Ytedpkficechjnaa.AU Go.Proofs.Ytedpkficechjnaa.AV Go.Proofs.Ytedpkficechjnaa.AW
set_option linter.unusedVariables false
set_option linter.unusedSimpArgs false

def SetupB (w : World) (b : Nat) (s : Setup) : Prop := E.Blk w b 23 #[.int .i64 s.keep, .int .i64 s.horizon, .int .i64 s.ahead, .int .i64 s.budget, .int .i64 s.window]
def ShelfB (w : World) (b : Nat) (x : Shelf) (A : Option Addr) (c : Nat) : Prop := E.Blk w b 26 #[.int .i64 x.base, .slice A x.keys.length c, .int .i64 x.clean]
def KeyB (w : World) (b : Nat) (k : Key) : Prop := E.Blk w b 28 #[.int .i64 k.stamp, .int .i64 k.sensor, .int .i64 k.seq]

theorem j1_any (f : Int) (k : Key) (eb kb : Nat) (w : World) (he : E.Blk w eb 30 #[.int .i64 f]) (hk : KeyB w kb k) :
    Calls Try.prog 38 #[.pointer (some ⟨eb, 0, none⟩), .pointer (some ⟨kb, 0, none⟩)] w fun e w' => e = .returned (.bool (badB f k)) ∧ E.Ext w w' := by
  obtain ⟨c1, f1⟩ := he.facts
  obtain ⟨c2, f2⟩ := E.Blk.facts hk
  by_cases h : f = 0
  · subst h
    cases hw : win k.stamp 0 1099511627776 with
    | true =>
      have hb : badB 0 k = false := by unfold badB; rw [hw]; rfl
      go_enter Try.func38, Try.ntmps38
      go_wp2_with (go_at_call 39; refine (within_any _ _ _ _).mono ?_; rintro e w' ⟨rfl, rfl⟩)
      go_ret
      exact ⟨by rw [hb]; rfl, E.Ext.refl _⟩
    | false =>
      have hb : badB 0 k = true := by unfold badB; rw [hw]; rfl
      go_enter Try.func38, Try.ntmps38
      go_wp2_with (go_at_call 39; refine (within_any _ _ _ _).mono ?_; rintro e w' ⟨rfl, rfl⟩)
      go_ret
      exact ⟨by rw [hb]; rfl, E.Ext.refl _⟩
  · have hb : badB f k = true := by unfold badB; simp [h]
    have hbf : (f != 0) = true := by simpa using h
    clear h
    go_enter Try.func38, Try.ntmps38
    go_wp2
    go_ret
    exact ⟨by rw [hb]; rfl, E.Ext.refl _⟩

theorem j2_any (x : Shelf) (A : Option Addr) (c : Nat) (k : Key) (xb kb : Nat) (w : World) (hx : ShelfB w xb x A c) (hk : KeyB w kb k) (h : Sl w 3 A x.keys.length c (keyCells x.keys)) (hl : x.keys.length ≤ 1099511627776) :
    Calls Try.prog 40 #[.pointer (some ⟨xb, 0, none⟩), .pointer (some ⟨kb, 0, none⟩)] w fun e w' => e = .returned (.bool (twinB x.keys k)) ∧ E.Ext w w' := by
  obtain ⟨c1, f1⟩ := E.Blk.facts hx
  obtain ⟨c2, f2⟩ := E.Blk.facts hk
  go_enter Try.func40, Try.ntmps40
  go_wp2_with fail
  refine (twin_any x.keys A c k _ h hl).mono ?_
  rintro e w1 ⟨rfl, hx1⟩
  go_wp2_with fail
  go_ret
  exact ⟨rfl, hx1⟩

theorem late_head {s : Setup} {x : Shelf} {k : Key} {f : Int} (h1 : ¬ k.stamp < f) (h2 : fullB s x = true) (h3 : 0 < x.keys.length) : lateB s x k f = k.lt (x.keys[0]'h3) := by
  unfold lateB
  rw [List.head?_eq_getElem?, List.getElem?_eq_getElem h3, h2]
  simp [h1]
theorem late_not {s : Setup} {x : Shelf} {k : Key} {f : Int} (h1 : ¬ k.stamp < f) (h2 : fullB s x = false) : lateB s x k f = false := by
  unfold lateB
  rw [h2]
  simp [h1]
theorem late_low {s : Setup} {x : Shelf} {k : Key} {f : Int} (h1 : k.stamp < f) : lateB s x k f = true := by
  unfold lateB
  simp [h1]

set_option maxHeartbeats 800000 in
theorem j3_any (s : Setup) (x : Shelf) (A : Option Addr) (c : Nat) (k : Key) (f : Int) (sb xb kb fb : Nat) (w : World) (hs : SetupB w sb s) (hx : ShelfB w xb x A c) (hk : KeyB w kb k) (hf : E.Blk w fb 3 #[.int .i64 f])
    (h : Sl w 3 A x.keys.length c (keyCells x.keys)) (hne : fullB s x = true → 0 < x.keys.length) :
    Calls Try.prog 42 #[.pointer (some ⟨kb, 0, none⟩), .pointer (some ⟨fb, 0, none⟩), .pointer (some ⟨sb, 0, none⟩), .pointer (some ⟨xb, 0, none⟩)] w fun e w' => e = .returned (.bool (lateB s x k f)) ∧ E.Ext w w' := by
  obtain ⟨c1, f1⟩ := E.Blk.facts hx
  obtain ⟨c2, f2⟩ := E.Blk.facts hk
  obtain ⟨c3, f3⟩ := E.Blk.facts hs
  obtain ⟨c4, f4⟩ := hf.facts
  have hcap := h.cap
  have hmax := h.max
  have HNE := Lib.hid hne
  clear hne
  by_cases h1 : k.stamp < f
  · have HL := Lib.hid (late_low (s := s) (x := x) h1)
    go_enter Try.func42, Try.ntmps42
    go_wp2_with fail
    refine E.wp_plan E.ext_pre 1000000 [(0, true), (1, true), (2, true), (3, true), (4, true), (5, true), (6, true), (7, false), (8, true), (9, true), (10, true), (11, true), (12, true), (13, true), (14, false), (15, true), (16, true), (17, true)] (by kernel_rfl) (by kernel_rfl) ?_
    repeat (first | (refine E.plan_pure (by simp only [List.getElem?_toArray, List.getElem?_cons_succ, List.getElem?_cons_zero]; rfl) (by rfl) (fun K hK => ?_); (go_simp; try go_bits; try go_simp); refine hK _ ?_; clear hK K) | (refine E.plan_load (by simp only [List.getElem?_toArray, List.getElem?_cons_succ, List.getElem?_cons_zero]; rfl) (by rfl) (by rfl) (fun K hK => ?_); (go_simp; try go_bits; try go_simp); refine hK _ ?_; clear hK K) | (refine E.plan_skip (E.Ext.refl _) (by simp only [List.getElem?_toArray, List.getElem?_cons_succ, List.getElem?_cons_zero]; rfl) (by rfl) (fun K hK => ?_); (go_simp; try go_bits; try go_simp); refine hK _ ?_; clear hK K))
    refine E.plan_nil ?_
    go_wp2_with fail
    go_ret
    exact ⟨by rw [HL.out]; rfl, E.Ext.drew _⟩
  · have hd : decide (k.stamp < f) = false := by simpa using h1
    have H1 := Lib.hid h1
    clear h1
    go_enter Try.func42, Try.ntmps42
    go_wp2_with fail
    refine E.wp_plan E.ext_pre 1000000 [(0, true), (1, true), (2, true), (3, true), (4, true), (5, true), (6, true), (7, false), (8, true), (9, true), (10, true), (11, true), (12, true), (13, true), (14, false), (15, true), (16, true), (17, true)] (by kernel_rfl) (by kernel_rfl) ?_
    repeat (first | (refine E.plan_pure (by simp only [List.getElem?_toArray, List.getElem?_cons_succ, List.getElem?_cons_zero]; rfl) (by rfl) (fun K hK => ?_); (go_simp; try go_bits; try go_simp); refine hK _ ?_; clear hK K) | (refine E.plan_load (by simp only [List.getElem?_toArray, List.getElem?_cons_succ, List.getElem?_cons_zero]; rfl) (by rfl) (by rfl) (fun K hK => ?_); (go_simp; try go_bits; try go_simp); refine hK _ ?_; clear hK K) | (refine E.plan_skip (E.Ext.refl _) (by simp only [List.getElem?_toArray, List.getElem?_cons_succ, List.getElem?_cons_zero]; rfl) (by rfl) (fun K hK => ?_); (go_simp; try go_bits; try go_simp); refine hK _ ?_; clear hK K))
    refine E.plan_eff (by simp only [List.getElem?_toArray, List.getElem?_cons_succ, List.getElem?_cons_zero]; rfl) (by rfl) (fun K hK => ?_); (go_simp; try go_bits)
    refine (full_any s x A c _).mono ?_; rintro e w1 ⟨rfl, hx1⟩; refine hK _ _ hx1 ?_; clear hK K
    have hx01 := (E.Ext.drew w).trans hx1
    clear c1 f1 c2 f2 c3 f3 c4 f4
    obtain ⟨c1, f1⟩ := E.Blk.facts (E.Blk.ext hx hx01)
    obtain ⟨c2, f2⟩ := E.Blk.facts (E.Blk.ext hk hx01)
    cases hfu : fullB s x with
    | false =>
      have HL := Lib.hid (late_not (s := s) (x := x) (k := k) (f := f) (by have := H1.out; omega) hfu)
      repeat (first | (refine E.plan_pure (by simp only [List.getElem?_toArray, List.getElem?_cons_succ, List.getElem?_cons_zero]; rfl) (by rfl) (fun K hK => ?_); (go_simp; try go_bits; try go_simp); refine hK _ ?_; clear hK K) | (refine E.plan_load (by simp only [List.getElem?_toArray, List.getElem?_cons_succ, List.getElem?_cons_zero]; rfl) (by rfl) (by rfl) (fun K hK => ?_); (go_simp; try go_bits; try go_simp); refine hK _ ?_; clear hK K) | (refine E.plan_skip (E.Ext.refl _) (by simp only [List.getElem?_toArray, List.getElem?_cons_succ, List.getElem?_cons_zero]; rfl) (by rfl) (fun K hK => ?_); (go_simp; try go_bits; try go_simp); refine hK _ ?_; clear hK K))
      refine E.plan_nil ?_
      go_wp2_with fail
      go_ret
      exact ⟨by rw [HL.out]; rfl, hx01⟩
    | true =>
      have hlen := HNE.out hfu
      have HL := Lib.hid (late_head (s := s) (x := x) (k := k) (f := f) (by have := H1.out; omega) hfu hlen)
      obtain ⟨b, o, rfl, k0, k1, k2⟩ := key_at (h.ext hx01) (k := 0) hlen
      simp only [Nat.zero_mul, Nat.add_zero] at k0 k1 k2
      repeat (first | (refine E.plan_pure (by simp only [List.getElem?_toArray, List.getElem?_cons_succ, List.getElem?_cons_zero]; rfl) (by rfl) (fun K hK => ?_); (go_simp; try go_bits; try go_simp); refine hK _ ?_; clear hK K) | (refine E.plan_load (by simp only [List.getElem?_toArray, List.getElem?_cons_succ, List.getElem?_cons_zero]; rfl) (by rfl) (by rfl) (fun K hK => ?_); (go_simp; try go_bits; try go_simp); refine hK _ ?_; clear hK K) | (refine E.plan_skip (E.Ext.refl _) (by simp only [List.getElem?_toArray, List.getElem?_cons_succ, List.getElem?_cons_zero]; rfl) (by rfl) (fun K hK => ?_); (go_simp; try go_bits; try go_simp); refine hK _ ?_; clear hK K))
      refine E.plan_eff (by simp only [List.getElem?_toArray, List.getElem?_cons_succ, List.getElem?_cons_zero]; rfl) (by rfl) (fun K hK => ?_); (go_simp; try go_bits)
      refine (less_any k (x.keys[0]) _).mono ?_; rintro e w2 ⟨rfl, hx2⟩; refine hK _ _ hx2 ?_; clear hK K
      cases hq : k.lt (x.keys[0]) with
      | true =>
        repeat (first | (refine E.plan_pure (by simp only [List.getElem?_toArray, List.getElem?_cons_succ, List.getElem?_cons_zero]; rfl) (by rfl) (fun K hK => ?_); (go_simp; try go_bits; try go_simp); refine hK _ ?_; clear hK K) | (refine E.plan_load (by simp only [List.getElem?_toArray, List.getElem?_cons_succ, List.getElem?_cons_zero]; rfl) (by rfl) (by rfl) (fun K hK => ?_); (go_simp; try go_bits; try go_simp); refine hK _ ?_; clear hK K) | (refine E.plan_skip (E.Ext.refl _) (by simp only [List.getElem?_toArray, List.getElem?_cons_succ, List.getElem?_cons_zero]; rfl) (by rfl) (fun K hK => ?_); (go_simp; try go_bits; try go_simp); refine hK _ ?_; clear hK K))
        refine E.plan_nil ?_
        go_wp2_with fail
        go_ret
        exact ⟨by rw [HL.out, hq]; rfl, hx01.trans hx2⟩
      | false =>
        repeat (first | (refine E.plan_pure (by simp only [List.getElem?_toArray, List.getElem?_cons_succ, List.getElem?_cons_zero]; rfl) (by rfl) (fun K hK => ?_); (go_simp; try go_bits; try go_simp); refine hK _ ?_; clear hK K) | (refine E.plan_load (by simp only [List.getElem?_toArray, List.getElem?_cons_succ, List.getElem?_cons_zero]; rfl) (by rfl) (by rfl) (fun K hK => ?_); (go_simp; try go_bits; try go_simp); refine hK _ ?_; clear hK K) | (refine E.plan_skip (E.Ext.refl _) (by simp only [List.getElem?_toArray, List.getElem?_cons_succ, List.getElem?_cons_zero]; rfl) (by rfl) (fun K hK => ?_); (go_simp; try go_bits; try go_simp); refine hK _ ?_; clear hK K))
        refine E.plan_nil ?_
        go_wp2_with fail
        go_ret
        exact ⟨by rw [HL.out, hq]; rfl, hx01.trans hx2⟩

theorem j4_any (s : Setup) (x : Shelf) (A : Option Addr) (c : Nat) (sb xb : Nat) (w : World) (hs : SetupB w sb s) (hx : ShelfB w xb x A c) :
    Calls Try.prog 44 #[.pointer (some ⟨sb, 0, none⟩), .pointer (some ⟨xb, 0, none⟩)] w fun e w' => e = .returned (.bool (busyB s x)) ∧ E.Ext w w' := by
  obtain ⟨c1, f1⟩ := E.Blk.facts hx
  obtain ⟨c3, f3⟩ := E.Blk.facts hs
  go_enter Try.func44, Try.ntmps44
  go_wp2_with fail
  refine (full_any s x A c _).mono ?_
  rintro e w1 ⟨rfl, hx1⟩
  clear c1 f1 c3 f3
  obtain ⟨c1, f1⟩ := E.Blk.facts (E.Blk.ext hx hx1)
  cases hfu : fullB s x with
  | false =>
    have hb : busyB s x = false := by unfold busyB; rw [hfu]; rfl
    go_wp2_with fail
    go_ret
    exact ⟨by rw [hb]; rfl, hx1⟩
  | true =>
    have hb : (x.clean == 0) = busyB s x := by unfold busyB; rw [hfu, Bool.eq_iff_iff]; simp
    cases hbb : busyB s x with
    | true =>
      rw [hbb] at hb
      go_wp2_with fail
      go_ret
      exact ⟨by simp [hb, hbb], hx1⟩
    | false =>
      rw [hbb] at hb
      go_wp2_with fail
      go_ret
      exact ⟨by simp [hb, hbb], hx1⟩

theorem judge_of (s : Setup) (x : Shelf) (k : Key) {er f : Int} (h1 : fitsE s x = er) (h2 : floorV s x = f) : judge s x k = if badB er k then 2 else if twinB x.keys k then 7 else if lateB s x k f then 6 else if busyB s x then 12 else 0 := by
  unfold judge
  rw [h1, h2]
theorem not_bad {s : Setup} {x : Shelf} {k : Key} {er : Int} (h1 : fitsE s x = er) (h : badB er k = false) : FitsP s x := by
  by_cases hf : FitsP s x
  · exact hf
  · rw [fits_no hf] at h1
    subst h1
    unfold badB at h
    simp at h
theorem full_len {s : Setup} {x : Shelf} (hf : FitsP s x) (h : fullB s x = true) : 0 < x.keys.length := by
  have h1 := (fits_all hf).1
  unfold fullB at h
  simp only [decide_eq_true_eq] at h
  omega

set_option maxRecDepth 8000 in
set_option maxHeartbeats 3200000 in
theorem judge_any (s : Setup) (x : Shelf) (A : Option Addr) (c : Nat) (k : Key) (w : World) (h : Sl w 3 A x.keys.length c (keyCells x.keys)) (hl : x.keys.length ≤ 1099511627776) :
    Calls Try.prog 8 #[s.val, x.val A c, k.val] w fun e w' => e = .returned (.int .i64 (judge s x k)) ∧ E.Ext w w' := by
  have hx0 := ((E.Ext.alloc w (.cells #[.int .i64 s.keep, .int .i64 s.horizon, .int .i64 s.ahead, .int .i64 s.budget, .int .i64 s.window] 23)).trans (E.Ext.alloc _ (.cells #[.int .i64 x.base, .slice A x.keys.length c, .int .i64 x.clean] 26))).trans (E.Ext.alloc _ (.cells #[.int .i64 k.stamp, .int .i64 k.sensor, .int .i64 k.seq] 28))
  unfold Shelf.val Setup.val Key.val
  go_enter Try.func8, Try.ntmps8
  go_wp2_with fail
  refine (floor_any s x A c _ (h.ext hx0) hl).mono ?_
  rintro e w1 ⟨rfl, hx1⟩
  have S1 : SetupB w1 w.heap.size s := E.blk2 hx1 rfl
  have X1 : ShelfB w1 (w.heap.size + 1) x A c := by have := E.blk1 hx1 rfl; simp only [World.size_alloc] at this; exact this
  have K1 : KeyB w1 (w.heap.size + 1 + 1) k := by have := E.blk0 hx1 rfl; simp only [World.size_alloc] at this; exact this
  have hx01 := hx0.trans hx1
  obtain ⟨er, her⟩ : ∃ er, fitsE s x = er := ⟨_, rfl⟩
  obtain ⟨f, hf⟩ : ∃ f, floorV s x = f := ⟨_, rfl⟩
  have HJ := Lib.hid (judge_of s x k her hf)
  have HE := Lib.hid her
  rw [her, hf]
  clear her hf
  have hxL := ((E.Ext.alloc w1 (.cells #[.int .i64 f] 3)).trans (E.Ext.alloc _ (.cells #[.int .i64 er] 30))).trans (E.Ext.alloc _ (.cells #[.int .i64 2, .func (.func 38) #[] #[.pointer (some ⟨w1.heap.size + 1, 0, none⟩), .pointer (some ⟨w.heap.size + 1 + 1, 0, none⟩)], .int .i64 7, .func (.func 40) #[] #[.pointer (some ⟨w.heap.size + 1, 0, none⟩), .pointer (some ⟨w.heap.size + 1 + 1, 0, none⟩)], .int .i64 6, .func (.func 42) #[] #[.pointer (some ⟨w.heap.size + 1 + 1, 0, none⟩), .pointer (some ⟨w1.heap.size, 0, none⟩), .pointer (some ⟨w.heap.size, 0, none⟩), .pointer (some ⟨w.heap.size + 1, 0, none⟩)], .int .i64 12, .func (.func 44) #[] #[.pointer (some ⟨w.heap.size, 0, none⟩), .pointer (some ⟨w.heap.size + 1, 0, none⟩)]] 62))
  have L0 := E.Blk.new ((w1.alloc (.cells #[.int .i64 f] 3)).alloc (.cells #[.int .i64 er] 30)) 62 #[.int .i64 2, .func (.func 38) #[] #[.pointer (some ⟨w1.heap.size + 1, 0, none⟩), .pointer (some ⟨w.heap.size + 1 + 1, 0, none⟩)], .int .i64 7, .func (.func 40) #[] #[.pointer (some ⟨w.heap.size + 1, 0, none⟩), .pointer (some ⟨w.heap.size + 1 + 1, 0, none⟩)], .int .i64 6, .func (.func 42) #[] #[.pointer (some ⟨w.heap.size + 1 + 1, 0, none⟩), .pointer (some ⟨w1.heap.size, 0, none⟩), .pointer (some ⟨w.heap.size, 0, none⟩), .pointer (some ⟨w.heap.size + 1, 0, none⟩)], .int .i64 12, .func (.func 44) #[] #[.pointer (some ⟨w.heap.size, 0, none⟩), .pointer (some ⟨w.heap.size + 1, 0, none⟩)]]
  simp only [World.size_alloc] at L0
  have F0 := ((E.Blk.new w1 3 #[.int .i64 f]).alloc (.cells #[.int .i64 er] 30)).alloc (.cells #[.int .i64 2, .func (.func 38) #[] #[.pointer (some ⟨w1.heap.size + 1, 0, none⟩), .pointer (some ⟨w.heap.size + 1 + 1, 0, none⟩)], .int .i64 7, .func (.func 40) #[] #[.pointer (some ⟨w.heap.size + 1, 0, none⟩), .pointer (some ⟨w.heap.size + 1 + 1, 0, none⟩)], .int .i64 6, .func (.func 42) #[] #[.pointer (some ⟨w.heap.size + 1 + 1, 0, none⟩), .pointer (some ⟨w1.heap.size, 0, none⟩), .pointer (some ⟨w.heap.size, 0, none⟩), .pointer (some ⟨w.heap.size + 1, 0, none⟩)], .int .i64 12, .func (.func 44) #[] #[.pointer (some ⟨w.heap.size, 0, none⟩), .pointer (some ⟨w.heap.size + 1, 0, none⟩)]] 62)
  have E0 := (E.Blk.new (w1.alloc (.cells #[.int .i64 f] 3)) 30 #[.int .i64 er]).alloc (.cells #[.int .i64 2, .func (.func 38) #[] #[.pointer (some ⟨w1.heap.size + 1, 0, none⟩), .pointer (some ⟨w.heap.size + 1 + 1, 0, none⟩)], .int .i64 7, .func (.func 40) #[] #[.pointer (some ⟨w.heap.size + 1, 0, none⟩), .pointer (some ⟨w.heap.size + 1 + 1, 0, none⟩)], .int .i64 6, .func (.func 42) #[] #[.pointer (some ⟨w.heap.size + 1 + 1, 0, none⟩), .pointer (some ⟨w1.heap.size, 0, none⟩), .pointer (some ⟨w.heap.size, 0, none⟩), .pointer (some ⟨w.heap.size + 1, 0, none⟩)], .int .i64 12, .func (.func 44) #[] #[.pointer (some ⟨w.heap.size, 0, none⟩), .pointer (some ⟨w.heap.size + 1, 0, none⟩)]] 62)
  simp only [World.size_alloc] at E0
  go_wp2_with fail
  generalize hwL : ((w1.alloc (.cells #[.int .i64 f] 3)).alloc (.cells #[.int .i64 er] 30)).alloc (.cells #[.int .i64 2, .func (.func 38) #[] #[.pointer (some ⟨w1.heap.size + 1, 0, none⟩), .pointer (some ⟨w.heap.size + 1 + 1, 0, none⟩)], .int .i64 7, .func (.func 40) #[] #[.pointer (some ⟨w.heap.size + 1, 0, none⟩), .pointer (some ⟨w.heap.size + 1 + 1, 0, none⟩)], .int .i64 6, .func (.func 42) #[] #[.pointer (some ⟨w.heap.size + 1 + 1, 0, none⟩), .pointer (some ⟨w1.heap.size, 0, none⟩), .pointer (some ⟨w.heap.size, 0, none⟩), .pointer (some ⟨w.heap.size + 1, 0, none⟩)], .int .i64 12, .func (.func 44) #[] #[.pointer (some ⟨w.heap.size, 0, none⟩), .pointer (some ⟨w.heap.size + 1, 0, none⟩)]] 62) = wL at *
  have S0 : SetupB wL w.heap.size s := E.Blk.ext S1 hxL
  have X0 : ShelfB wL (w.heap.size + 1) x A c := E.Blk.ext X1 hxL
  have K0 : KeyB wL (w.heap.size + 1 + 1) k := E.Blk.ext K1 hxL
  have hSl := (h.ext hx01).ext hxL
  clear S1 X1 K1 hwL
  have hxc := E.Ext.refl wL
  refine wp_loop_rounds 5 ?_
  rw [rounds_succ]
  obtain ⟨cL, fL⟩ := (L0.ext hxc).facts
  go_wp2_with fail
  refine (j1_any er k _ _ _ (E.Blk.ext (E.Blk.ext E0 hxc) (E.Ext.alloc _ _)) (E.Blk.ext (E.Blk.ext K0 hxc) (E.Ext.alloc _ _))).mono ?_
  rintro e w2 ⟨rfl, hx2⟩
  have T := (E.Blk.new wL 62 #[.int .i64 2, .func (.func 38) #[] #[.pointer (some ⟨w1.heap.size + 1, 0, none⟩), .pointer (some ⟨w.heap.size + 1 + 1, 0, none⟩)]]).ext hx2
  have hxd2 : E.Ext wL w2 := (hxc.trans (E.Ext.alloc _ _)).trans hx2
  clear cL fL
  obtain ⟨cT, fT⟩ := T.facts
  cases hv : badB er k with
  | true =>
    have HR := Lib.hid (show judge s x k = 2 by rw [HJ.out]; simp [hv])
    clear hv
    go_wp2_with fail
    go_ret
    exact ⟨by rw [HR.out]; rfl, (hx01.trans hxL).trans hxd2⟩
  | false =>
    have HV1 := Lib.hid hv
    clear hv
    go_wp2_with fail
    clear cT fT T
    rw [rounds_succ]
    obtain ⟨cL, fL⟩ := (L0.ext hxd2).facts
    go_wp2_with fail
    refine (j2_any x A c k _ _ _ (E.Blk.ext (E.Blk.ext X0 hxd2) (E.Ext.alloc _ _)) (E.Blk.ext (E.Blk.ext K0 hxd2) (E.Ext.alloc _ _)) ((hSl.ext hxd2).ext (E.Ext.alloc _ _)) hl).mono ?_
    rintro e w3 ⟨rfl, hx3⟩
    have T := (E.Blk.new w2 62 #[.int .i64 7, .func (.func 40) #[] #[.pointer (some ⟨w.heap.size + 1, 0, none⟩), .pointer (some ⟨w.heap.size + 1 + 1, 0, none⟩)]]).ext hx3
    have hxd3 : E.Ext wL w3 := (hxd2.trans (E.Ext.alloc _ _)).trans hx3
    clear cL fL
    obtain ⟨cT, fT⟩ := T.facts
    cases hv : twinB x.keys k with
    | true =>
      have HR := Lib.hid (show judge s x k = 7 by rw [HJ.out]; simp [HV1.out, hv])
      clear hv
      go_wp2_with fail
      go_ret
      exact ⟨by rw [HR.out]; rfl, (hx01.trans hxL).trans hxd3⟩
    | false =>
      have HV2 := Lib.hid hv
      clear hv
      go_wp2_with fail
      clear cT fT T
      rw [rounds_succ]
      obtain ⟨cL, fL⟩ := (L0.ext hxd3).facts
      go_wp2_with fail
      refine (j3_any s x A c k f _ _ _ _ _ (E.Blk.ext (E.Blk.ext S0 hxd3) (E.Ext.alloc _ _)) (E.Blk.ext (E.Blk.ext X0 hxd3) (E.Ext.alloc _ _)) (E.Blk.ext (E.Blk.ext K0 hxd3) (E.Ext.alloc _ _)) (E.Blk.ext (E.Blk.ext F0 hxd3) (E.Ext.alloc _ _)) ((hSl.ext hxd3).ext (E.Ext.alloc _ _)) (full_len (not_bad HE.out HV1.out))).mono ?_
      rintro e w4 ⟨rfl, hx4⟩
      have T := (E.Blk.new w3 62 #[.int .i64 6, .func (.func 42) #[] #[.pointer (some ⟨w.heap.size + 1 + 1, 0, none⟩), .pointer (some ⟨w1.heap.size, 0, none⟩), .pointer (some ⟨w.heap.size, 0, none⟩), .pointer (some ⟨w.heap.size + 1, 0, none⟩)]]).ext hx4
      have hxd4 : E.Ext wL w4 := (hxd3.trans (E.Ext.alloc _ _)).trans hx4
      clear cL fL
      obtain ⟨cT, fT⟩ := T.facts
      cases hv : lateB s x k f with
      | true =>
        have HR := Lib.hid (show judge s x k = 6 by rw [HJ.out]; simp [HV1.out, HV2.out, hv])
        clear hv
        go_wp2_with fail
        go_ret
        exact ⟨by rw [HR.out]; rfl, (hx01.trans hxL).trans hxd4⟩
      | false =>
        have HV3 := Lib.hid hv
        clear hv
        go_wp2_with fail
        clear cT fT T
        rw [rounds_succ]
        obtain ⟨cL, fL⟩ := (L0.ext hxd4).facts
        go_wp2_with fail
        refine (j4_any s x A c _ _ _ (E.Blk.ext (E.Blk.ext S0 hxd4) (E.Ext.alloc _ _)) (E.Blk.ext (E.Blk.ext X0 hxd4) (E.Ext.alloc _ _))).mono ?_
        rintro e w5 ⟨rfl, hx5⟩
        have T := (E.Blk.new w4 62 #[.int .i64 12, .func (.func 44) #[] #[.pointer (some ⟨w.heap.size, 0, none⟩), .pointer (some ⟨w.heap.size + 1, 0, none⟩)]]).ext hx5
        have hxd5 : E.Ext wL w5 := (hxd4.trans (E.Ext.alloc _ _)).trans hx5
        clear cL fL
        obtain ⟨cT, fT⟩ := T.facts
        cases hv : busyB s x with
        | true =>
          have HR := Lib.hid (show judge s x k = 12 by rw [HJ.out]; simp [HV1.out, HV2.out, HV3.out, hv])
          clear hv
          go_wp2_with fail
          go_ret
          exact ⟨by rw [HR.out]; rfl, (hx01.trans hxL).trans hxd5⟩
        | false =>
          have HV4 := Lib.hid hv
          clear hv
          go_wp2_with fail
          clear cT fT T
          have HR := Lib.hid (show judge s x k = 0 by rw [HJ.out]; simp [HV1.out, HV2.out, HV3.out, HV4.out])
          rw [rounds_succ]
          go_wp2_with fail
          go_ret
          exact ⟨by rw [HR.out]; rfl, (hx01.trans hxL).trans hxd5⟩
end Go.Proofs.Ytedpkficechjnaa.AX
