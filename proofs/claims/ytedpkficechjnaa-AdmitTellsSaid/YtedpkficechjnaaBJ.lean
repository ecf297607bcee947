/- AdmitTells, walked. -/
import Derived.Test.YtedpkficechjnaaBI
namespace Go.Proofs.Ytedpkficechjnaa.BJ
open Go.RowKit
open Go.Proofs.Ytedpkficechjnaa
open Go.Proofs.Ytedpkficechjnaa.KA Go.Proofs.Ytedpkficechjnaa.K Go.Proofs.Ytedpkficechjnaa.KB Go.Proofs.Ytedpkficechjnaa.KI Go.Proofs.Ytedpkficechjnaa.KQ Go.Proofs.Ytedpkficechjnaa.S Go.Proofs.Ytedpkficechjnaa.KR Go.Proofs.Ytedpkficechjnaa.KS Go.Proofs.Ytedpkficechjnaa.KT Go.Proofs.Ytedpkficechjnaa.KO Go.Proofs.Ytedpkficechjnaa.KU Go.Proofs.Ytedpkficechjnaa.AS Go.Proofs.Ytedpkficechjnaa.AT Go.Proofs.Ytedpkficechjnaa.AU Go.Proofs.Ytedpkficechjnaa.AV Go.Proofs.Ytedpkficechjnaa.AW Go.Proofs.Ytedpkficechjnaa.AX Go.Proofs.Ytedpkficechjnaa.AY Go.Proofs.Ytedpkficechjnaa.BA Go.Proofs.Ytedpkficechjnaa.BB Go.Proofs.Ytedpkficechjnaa.BD Go.Proofs.Ytedpkficechjnaa.BE Go.Proofs.Ytedpkficechjnaa.BI
set_option linter.unusedVariables false
set_option linter.unusedSimpArgs false

set_option maxHeartbeats 800000 in
theorem overKeys_any (A : Option Addr) (n c base : Nat) (xs : List Value) (w : World) (h : w.ownsRow base 28 3 (.slice A n c) n xs) (hn : n ≤ 1099511627776) :
    Calls Try.prog 26 #[.slice A n c] w fun e w' => e = .returned (.tuple #[]) ∧ E.ExtS (fun k => (Value.slice A n c).ownBlock = some k) w w' := by
  rcases Nat.eq_zero_or_pos n with h0 | h0
  · subst h0
    go_enter Try.func26, Try.ntmps26
    go_wp2
    refine wp_loop_rounds 1 ?_
    rw [rounds_succ]
    go_wp2
    go_end0
    exact ⟨rfl, E.ExtS.refl _ _⟩
  · obtain ⟨g, c', cs, hv, _, hB, hsz⟩ := own_blk h h0
    have hcc : A = some ⟨g, 0, none⟩ ∧ c = c' := by injection hv with h1 _ h3; exact ⟨h1, h3⟩
    obtain ⟨rfl, rfl⟩ := hcc
    clear hv h
    go_enter Try.func26, Try.ntmps26
    go_wp2
    go_loopw [2] (fun v wr => ∃ (k : Nat) (cs' : Array Value), v = .int .i64 k ∧ k ≤ n ∧ E.Blk wr g 28 cs' ∧ n * 3 ≤ cs'.size ∧ E.ExtS (fun i => some g = some i) w wr) (fun v _ => n - (intOf v).toNat)
    case atStart => exact ⟨0, cs, rfl, Nat.zero_le _, hB, by omega, E.ExtS.refl _ _⟩
    case round =>
      obtain ⟨k, cs', rfl, hk, hB', hs', hx⟩ := hrel
      obtain ⟨cc, ff⟩ := hB'.facts
      by_cases hlt : k < n
      · have hold0 : cs'[k * 3]? = some (cs'[k * 3]'(by omega)) := Array.getElem?_eq_getElem (by omega)
        have hold1 : cs'[k * 3 + 1]? = some (cs'[k * 3 + 1]'(by omega)) := Array.getElem?_eq_getElem (by omega)
        have hold2 : cs'[k * 3 + 2]? = some (cs'[k * 3 + 2]'(by omega)) := Array.getElem?_eq_getElem (by omega)
        generalize cs'[k * 3]'(by omega) = old0 at hold0
        generalize cs'[k * 3 + 1]'(by omega) = old1 at hold1
        generalize cs'[k * 3 + 2]'(by omega) = old2 at hold2
        have hs'' := Lib.hid hs'
        clear hs'
        go_wp2
        go_roundw
        case rel => exact ⟨k + 1, _, by go_num, by omega, ((hB'.set (k * 3) _).set (k * 3 + 1) _).set (k * 3 + 2) _, by simpa using hs''.out, ((hx.set (p := ⟨g, k * 3, none⟩) (Or.inl rfl) _).set (p := ⟨g, k * 3 + 1, none⟩) (Or.inl rfl) _).set (p := ⟨g, k * 3 + 2, none⟩) (Or.inl rfl) _⟩
        case measure => simp [intOf]; omega
      · go_wp2
        go_end0
        exact ⟨rfl, hx⟩
theorem own_base {w : World} {base n size k : Nat} {e : TypeId} {v : Value} {xs : List Value} (h : w.ownsRow base e size v n xs) (hk : v.ownBlock = some k) : base ≤ k ∧ k < w.heap.size := by
  rcases h.2 with ⟨rfl, _⟩ | ⟨g', cap, cur, rfl, hb, hg, _⟩
  · cases hk
  · cases hk
    exact ⟨hb, (Array.getElem?_eq_some_iff.1 hg).1⟩
theorem own_type {w : World} {base size n g : Nat} {e : TypeId} {v : Value} {xs : List Value} (h : w.ownsRow base e size v n xs) (hg : v.ownBlock = some g) : ∃ cs, E.Blk w g e cs := by
  rcases h.2 with ⟨rfl, _⟩ | ⟨g', cap, cur, rfl, _, h5, _⟩
  · cases hg
  · cases hg
    exact ⟨cur, h5⟩
theorem own_extO {w w' : World} {n size : Nat} {xs : List Value} {S : Nat → Prop} {base : Nat} {e : TypeId} {v : Value} (h : w.ownsRow base e size v n xs) (hx : E.ExtS S w w') (hS : ∀ g, v.ownBlock = some g → ¬ S g) : w'.ownsRow base e size v n xs := by
  refine ⟨h.1, ?_⟩
  rcases h.2 with hn | ⟨g, cap, cur, rfl, hb, hgg, rest⟩
  · exact .inl hn
  · exact .inr ⟨g, cap, cur, rfl, hb, (hx.block g (Array.getElem?_eq_some_iff.1 hgg).1 (hS g rfl)).trans hgg, rest⟩
theorem tick_at (s : Setup) (x : Shelf) (A : Option Addr) (c : Nat) (w : World) (h : Sl w 3 A x.keys.length c (keyCells x.keys)) (hl : x.keys.length ≤ 1099511627776) {y : Shelf} {n j : Int} (hj : tick s x = (y, n, j)) :
    Calls Try.prog 17 #[s.val, x.val A c] w (OwnedS w y n j) := by
  have := tick_any s x A c w h hl
  rw [hj] at this
  exact this
theorem tickR_at (s : Setup) (x : Shelf) (A : Option Addr) (c : Nat) (w : World) (h : Sl w 3 A x.keys.length c (keyCells x.keys)) (hl : x.keys.length ≤ 1099511627776) {y : Shelf} {n j : Int} (hj : tick s x = (y, n, j)) :
    Calls Try.prog 18 #[s.val, x.val A c] w (OwnedS w y n j) := by
  have := tickR_any s x A c w h hl
  rw [hj] at this
  exact this
theorem putR_at (s : Setup) (x : Shelf) (A : Option Addr) (c : Nat) (k : Key) (w : World) (h : Sl w 3 A x.keys.length c (keyCells x.keys)) (hl : x.keys.length ≤ 1099511627776) {y : Shelf} {n j : Int} (hj : put s x k = (y, n, j)) :
    Calls Try.prog 16 #[s.val, x.val A c, k.val] w (OwnedS w y n j) := by
  have := putR_any s x A c k w h hl
  rw [hj] at this
  exact this
theorem tick_len {s : Setup} {x y : Shelf} {n j : Int} (h : tick s x = (y, n, j)) : y.keys.length ≤ x.keys.length := by
  by_cases hf : FitsP s x
  · rw [tick_yes hf] at h
    cases h
    exact Nat.le_refl _
  · rw [tick_no hf] at h
    cases h
    exact Nat.zero_le _
theorem put_len {s : Setup} {x y : Shelf} {k : Key} {n j : Int} (h : put s x k = (y, n, j)) : y.keys.length ≤ x.keys.length + 1 := by
  by_cases hj : judge s x k = 0
  · rw [put_ok hj] at h
    cases h
    unfold putAt
    simp only [List.length_append, List.length_take, List.length_cons, List.length_drop]
    have : (room s x).keys.length ≤ x.keys.length := by
      unfold room
      split
      · simp
      · exact Nat.le_refl _
    omega
  · rw [put_err rfl hj] at h
    cases h
    exact Nat.zero_le _

set_option maxRecDepth 8000 in
set_option maxHeartbeats 6400000 in
theorem tells_walk (s : Setup) (x : Shelf) (A : Option Addr) (c : Nat) (k : Key) (w : World) (h : Sl w 3 A x.keys.length c (keyCells x.keys)) :
    Calls Try.prog 4 #[s.val, x.val A c, k.val] w fun e w' => e = .returned (.bool true) ∧ E.Ext w w' := by
  have hx0 := ((E.Ext.alloc w (.cells #[.int .i64 s.keep, .int .i64 s.horizon, .int .i64 s.ahead, .int .i64 s.budget, .int .i64 s.window] 23)).trans (E.Ext.alloc _ (.cells #[.int .i64 x.base, .slice A x.keys.length c, .int .i64 x.clean] 26))).trans (E.Ext.alloc _ (.cells #[.int .i64 k.stamp, .int .i64 k.sensor, .int .i64 k.seq] 28))
  unfold Shelf.val Setup.val Key.val
  go_enter Try.func4, Try.ntmps4
  by_cases h250 : 250 < x.keys.length
  · go_wp2_with fail
    refine (awake_any _).mono ?_
    rintro e w1 ⟨rfl, hx1⟩
    go_wp2_with fail
    go_ret
    exact ⟨rfl, hx0.trans hx1⟩
  · have hl : x.keys.length ≤ 1099511627776 := by omega
    obtain ⟨er, her⟩ : ∃ er, fitsE s x = er := ⟨_, rfl⟩
    obtain ⟨fl, hfl⟩ : ∃ f, floorV s x = f := ⟨_, rfl⟩
    obtain ⟨⟨py, pn, pj⟩, hput⟩ : ∃ t, put s x k = t := ⟨_, rfl⟩
    obtain ⟨⟨ty, tn, tj⟩, htick⟩ : ∃ t, tick s x = t := ⟨_, rfl⟩
    have hpl := put_len hput
    have htl := tick_len htick
    have hpl2 : py.keys.length ≤ 1099511627776 := by omega
    have htl2 : ty.keys.length ≤ 1099511627776 := by omega
    have HE := Lib.hid her
    have HF := Lib.hid hfl
    have HP := Lib.hid hput
    have HT := Lib.hid htick
    clear her hfl hput htick hpl htl
    go_wp2_with fail
    refine (copyShelf_any x A c _ (h.ext hx0) hl).mono ?_
    rintro e w1 ⟨A1, c1, rfl, hx1, ho1⟩
    dsimp only [Shelf.val]
    have HS : E.Blk w1 w.heap.size 23 #[.int .i64 s.keep, .int .i64 s.horizon, .int .i64 s.ahead, .int .i64 s.budget, .int .i64 s.window] := E.blk2 hx1 rfl
    have HX : E.Blk w1 (w.heap.size + 1) 26 #[.int .i64 x.base, .slice A x.keys.length c, .int .i64 x.clean] := by have := E.blk1 hx1 rfl; simp only [World.size_alloc] at this; exact this
    have HK : E.Blk w1 (w.heap.size + 1 + 1) 28 #[.int .i64 k.stamp, .int .i64 k.sensor, .int .i64 k.seq] := by have := E.blk0 hx1 rfl; simp only [World.size_alloc] at this; exact this
    have hx01 := hx0.trans hx1
    have hb1 : w.heap.size < w1.heap.size := HS.lt
    have hb2 : w.heap.size + 1 < w1.heap.size := HX.lt
    have hb3 : w.heap.size + 1 + 1 < w1.heap.size := HK.lt
    obtain ⟨cHS, fHS⟩ := HS.facts
    obtain ⟨cHX, fHX⟩ := HX.facts
    obtain ⟨cHK, fHK⟩ := HK.facts
    go_wp2_with fail
    have HI := E.Blk.new w1 26 #[.int .i64 x.base, .slice A1 x.keys.length c1, .int .i64 x.clean]
    have hxI := E.Ext.alloc w1 (.cells #[.int .i64 x.base, .slice A1 x.keys.length c1, .int .i64 x.clean] 26)
    generalize hi : w1.heap.size = i at *
    generalize hW : w1.alloc (.cells #[.int .i64 x.base, .slice A1 x.keys.length c1, .int .i64 x.clean] 26) = W1 at *
    have hs1 := own_ext ho1 hxI
    have hxW := hx01.trans hxI
    replace HS := HS.ext hxI
    replace HX := HX.ext hxI
    replace HK := HK.ext hxI
    clear hW hxI ho1 hx01 hx1 hi cHS fHS cHX fHX cHK fHK
    refine (floor_any s x A1 c1 _ (own_sl' hs1) hl).mono ?_
    rintro e w2 ⟨rfl, hx2⟩
    rw [HE.out, HF.out]
    (try clear cHS fHS); replace HS := HS.ext hx2; obtain ⟨cHS, fHS⟩ := HS.facts; (try clear cHX fHX); replace HX := HX.ext hx2; obtain ⟨cHX, fHX⟩ := HX.facts; (try clear cHK fHK); replace HK := HK.ext hx2; obtain ⟨cHK, fHK⟩ := HK.facts; (try clear cHI fHI); replace HI := HI.ext hx2; obtain ⟨cHI, fHI⟩ := HI.facts
    go_wp2_with fail
    refine (floorR_any s x A c _ ((h.ext hxW).ext hx2) hl).mono ?_
    rintro e w3 ⟨rfl, hx3⟩
    rw [HE.out, HF.out]
    (try clear cHS fHS); replace HS := HS.ext hx3; obtain ⟨cHS, fHS⟩ := HS.facts; (try clear cHX fHX); replace HX := HX.ext hx3; obtain ⟨cHX, fHX⟩ := HX.facts; (try clear cHK fHK); replace HK := HK.ext hx3; obtain ⟨cHK, fHK⟩ := HK.facts; (try clear cHI fHI); replace HI := HI.ext hx3; obtain ⟨cHI, fHI⟩ := HI.facts
    go_wp2_with fail
    have hx13 := hx2.trans hx3
    refine (put_at s x A1 c1 k _ (own_sl' (own_ext hs1 hx13)) hl HP.out).mono ?_
    rintro e w4 ⟨A4, c4, rfl, hx4, ho4⟩
    dsimp only [Shelf.val]
    try clear cHS fHS
    try clear lHS
    try clear cHX fHX
    try clear lHX
    try clear cHK fHK
    try clear lHK
    try clear cHI fHI
    try clear lHI
    replace HS := HS.ext hx4
    replace HX := HX.ext hx4
    replace HK := HK.ext hx4
    replace HI := HI.ext hx4
    obtain ⟨cHS, fHS⟩ := HS.facts
    have lHS := HS.lt
    obtain ⟨cHX, fHX⟩ := HX.facts
    have lHX := HX.lt
    obtain ⟨cHK, fHK⟩ := HK.facts
    have lHK := HK.lt
    obtain ⟨cHI, fHI⟩ := HI.facts
    have lHI := HI.lt
    go_wp2_with fail
    clear cHS fHS lHS
    clear cHX fHX lHX
    clear cHK fHK lHK
    clear cHI fHI lHI
    have HA := E.Blk.new w4 26 #[.int .i64 py.base, .slice A4 py.keys.length c4, .int .i64 py.clean]
    have hal := E.Ext.alloc w4 (.cells #[.int .i64 py.base, .slice A4 py.keys.length c4, .int .i64 py.clean] 26)
    generalize e1 : w4.heap.size = ba at *
    generalize e2 : w4.alloc (.cells #[.int .i64 py.base, .slice A4 py.keys.length c4, .int .i64 py.clean] 26) = W4 at *
    replace HS := HS.ext hal
    replace HX := HX.ext hal
    replace HK := HK.ext hal
    replace HI := HI.ext hal
    replace ho4 := own_ext ho4 hal
    have hy4 := hx4.trans hal
    clear e1 e2 hal hx4
    have hy04 := hxW.trans (hx13.trans hy4)
    have hs4 := own_ext hs1 (hx13.trans hy4)
    have hlt4 := fun k e => (own_base ho4 (k := k) e).2
    refine (putR_at s x A c k _ (h.ext hy04) hl HP.out).mono ?_
    rintro e w5 ⟨A5, c5, rfl, hx5, ho5⟩
    dsimp only [Shelf.val]
    try clear cHS fHS
    try clear lHS
    try clear cHX fHX
    try clear lHX
    try clear cHK fHK
    try clear lHK
    try clear cHI fHI
    try clear lHI
    try clear cHA fHA
    try clear lHA
    replace HS := HS.ext hx5
    replace HX := HX.ext hx5
    replace HK := HK.ext hx5
    replace HI := HI.ext hx5
    replace HA := HA.ext hx5
    obtain ⟨cHS, fHS⟩ := HS.facts
    have lHS := HS.lt
    obtain ⟨cHX, fHX⟩ := HX.facts
    have lHX := HX.lt
    obtain ⟨cHK, fHK⟩ := HK.facts
    have lHK := HK.lt
    obtain ⟨cHI, fHI⟩ := HI.facts
    have lHI := HI.lt
    obtain ⟨cHA, fHA⟩ := HA.facts
    have lHA := HA.lt
    go_wp2_with fail
    clear cHS fHS lHS
    clear cHX fHX lHX
    clear cHK fHK lHK
    clear cHI fHI lHI
    clear cHA fHA lHA
    have HB := E.Blk.new w5 26 #[.int .i64 py.base, .slice A5 py.keys.length c5, .int .i64 py.clean]
    have hal := E.Ext.alloc w5 (.cells #[.int .i64 py.base, .slice A5 py.keys.length c5, .int .i64 py.clean] 26)
    generalize e1 : w5.heap.size = bb at *
    generalize e2 : w5.alloc (.cells #[.int .i64 py.base, .slice A5 py.keys.length c5, .int .i64 py.clean] 26) = W5 at *
    replace HS := HS.ext hal
    replace HX := HX.ext hal
    replace HK := HK.ext hal
    replace HI := HI.ext hal
    replace HA := HA.ext hal
    replace ho5 := own_ext ho5 hal
    have hy5 := hx5.trans hal
    clear e1 e2 hal hx5
    have hy05 := hy04.trans hy5
    replace hs4 := own_ext hs4 hy5
    replace ho4 := own_ext ho4 hy5
    refine (tick_at s x A1 c1 _ (own_sl' hs4) hl HT.out).mono ?_
    rintro e w6 ⟨A6, c6, rfl, hx6, ho6⟩
    dsimp only [Shelf.val]
    try clear cHS fHS
    try clear lHS
    try clear cHX fHX
    try clear lHX
    try clear cHK fHK
    try clear lHK
    try clear cHI fHI
    try clear lHI
    try clear cHA fHA
    try clear lHA
    try clear cHB fHB
    try clear lHB
    replace HS := HS.ext hx6
    replace HX := HX.ext hx6
    replace HK := HK.ext hx6
    replace HI := HI.ext hx6
    replace HA := HA.ext hx6
    replace HB := HB.ext hx6
    obtain ⟨cHS, fHS⟩ := HS.facts
    have lHS := HS.lt
    obtain ⟨cHX, fHX⟩ := HX.facts
    have lHX := HX.lt
    obtain ⟨cHK, fHK⟩ := HK.facts
    have lHK := HK.lt
    obtain ⟨cHI, fHI⟩ := HI.facts
    have lHI := HI.lt
    obtain ⟨cHA, fHA⟩ := HA.facts
    have lHA := HA.lt
    obtain ⟨cHB, fHB⟩ := HB.facts
    have lHB := HB.lt
    go_wp2_with fail
    clear cHS fHS lHS
    clear cHX fHX lHX
    clear cHK fHK lHK
    clear cHI fHI lHI
    clear cHA fHA lHA
    clear cHB fHB lHB
    have HC := E.Blk.new w6 26 #[.int .i64 ty.base, .slice A6 ty.keys.length c6, .int .i64 ty.clean]
    have hal := E.Ext.alloc w6 (.cells #[.int .i64 ty.base, .slice A6 ty.keys.length c6, .int .i64 ty.clean] 26)
    generalize e1 : w6.heap.size = bc at *
    generalize e2 : w6.alloc (.cells #[.int .i64 ty.base, .slice A6 ty.keys.length c6, .int .i64 ty.clean] 26) = W6 at *
    replace HS := HS.ext hal
    replace HX := HX.ext hal
    replace HK := HK.ext hal
    replace HI := HI.ext hal
    replace HA := HA.ext hal
    replace HB := HB.ext hal
    replace ho6 := own_ext ho6 hal
    have hy6 := hx6.trans hal
    clear e1 e2 hal hx6
    have hy06 := hy05.trans hy6
    replace hs4 := own_ext hs4 hy6
    replace ho4 := own_ext ho4 hy6
    replace ho5 := own_ext ho5 hy6
    refine (tickR_at s x A c _ (h.ext hy06) hl HT.out).mono ?_
    rintro e w7 ⟨A7, c7, rfl, hx7, ho7⟩
    dsimp only [Shelf.val]
    try clear cHS fHS
    try clear lHS
    try clear cHX fHX
    try clear lHX
    try clear cHK fHK
    try clear lHK
    try clear cHI fHI
    try clear lHI
    try clear cHA fHA
    try clear lHA
    try clear cHB fHB
    try clear lHB
    try clear cHC fHC
    try clear lHC
    replace HS := HS.ext hx7
    replace HX := HX.ext hx7
    replace HK := HK.ext hx7
    replace HI := HI.ext hx7
    replace HA := HA.ext hx7
    replace HB := HB.ext hx7
    replace HC := HC.ext hx7
    obtain ⟨cHS, fHS⟩ := HS.facts
    have lHS := HS.lt
    obtain ⟨cHX, fHX⟩ := HX.facts
    have lHX := HX.lt
    obtain ⟨cHK, fHK⟩ := HK.facts
    have lHK := HK.lt
    obtain ⟨cHI, fHI⟩ := HI.facts
    have lHI := HI.lt
    obtain ⟨cHA, fHA⟩ := HA.facts
    have lHA := HA.lt
    obtain ⟨cHB, fHB⟩ := HB.facts
    have lHB := HB.lt
    obtain ⟨cHC, fHC⟩ := HC.facts
    have lHC := HC.lt
    go_wp2_with fail
    clear cHS fHS lHS
    clear cHX fHX lHX
    clear cHK fHK lHK
    clear cHI fHI lHI
    clear cHA fHA lHA
    clear cHB fHB lHB
    clear cHC fHC lHC
    have HD := E.Blk.new w7 26 #[.int .i64 ty.base, .slice A7 ty.keys.length c7, .int .i64 ty.clean]
    have hal := E.Ext.alloc w7 (.cells #[.int .i64 ty.base, .slice A7 ty.keys.length c7, .int .i64 ty.clean] 26)
    generalize e1 : w7.heap.size = bd at *
    generalize e2 : w7.alloc (.cells #[.int .i64 ty.base, .slice A7 ty.keys.length c7, .int .i64 ty.clean] 26) = W7 at *
    replace HS := HS.ext hal
    replace HX := HX.ext hal
    replace HK := HK.ext hal
    replace HI := HI.ext hal
    replace HA := HA.ext hal
    replace HB := HB.ext hal
    replace HC := HC.ext hal
    replace ho7 := own_ext ho7 hal
    have hy7 := hx7.trans hal
    clear e1 e2 hal hx7
    have hy07 := hy06.trans hy7
    replace hs4 := own_ext hs4 hy7
    replace ho4 := own_ext ho4 hy7
    replace ho5 := own_ext ho5 hy7
    replace ho6 := own_ext ho6 hy7
    refine (sameShelf_same py A4 A5 c4 c5 _ (own_sl' ho4) (own_sl' ho5) hpl2).mono ?_
    rintro e w8 ⟨rfl, hx8⟩
    (try clear cHC fHC); replace HC := HC.ext hx8; obtain ⟨cHC, fHC⟩ := HC.facts; (try clear cHD fHD); replace HD := HD.ext hx8; obtain ⟨cHD, fHD⟩ := HD.facts
    go_wp2_with fail
    have hx78 := hx8
    refine (sameShelf_same ty A6 A7 c6 c7 _ (own_sl' (own_ext ho6 hx8)) (own_sl' (own_ext ho7 hx8)) htl2).mono ?_
    rintro e w9 ⟨rfl, hx9⟩
    clear cHC fHC cHD fHD ho5 ho7
    have hx79 := hx8.trans hx9
    replace HC := HC.ext hx9
    clear HB HD
    (try clear cHS fHS); replace HS := HS.ext hx79; obtain ⟨cHS, fHS⟩ := HS.facts; (try clear cHX fHX); replace HX := HX.ext hx79; obtain ⟨cHX, fHX⟩ := HX.facts; (try clear cHK fHK); replace HK := HK.ext hx79; obtain ⟨cHK, fHK⟩ := HK.facts; (try clear cHI fHI); replace HI := HI.ext hx79; obtain ⟨cHI, fHI⟩ := HI.facts; (try clear cHA fHA); replace HA := HA.ext hx79; obtain ⟨cHA, fHA⟩ := HA.facts
    obtain ⟨cv, hcv⟩ : ∃ cv : Int, (if checkB s then (0 : Int) else 2) = cv := ⟨_, rfl⟩
    have HCH := Lib.hid (fun w => check_any s w)
    have HCR := Lib.hid (fun w => checkR_any s w)
    rw [hcv] at HCH HCR
    obtain ⟨nv, hnv⟩ : ∃ nv : Int, newest x = nv := ⟨_, rfl⟩
    obtain ⟨jv, hjv⟩ : ∃ jv : Int, judge s x k = jv := ⟨_, rfl⟩
    have HNV := Lib.hid hnv
    have HJV := Lib.hid hjv
    clear hcv hnv hjv
    have hy09 := hy07.trans hx79
    have hs9 := own_ext hs4 hx79
    have hX9 := h.ext hy09
    go_wp2_with fail
    refine E.wp_plan E.ext_pre 1000000 [(0, true), (1, true), (2, true), (4, true), (3, false), (5, false), (6, true), (7, true), (8, true), (9, true), (10, true), (12, true), (13, true), (11, false), (14, false), (15, true), (16, true), (17, true), (18, true), (20, true), (19, false), (21, false), (22, true), (23, true), (24, true), (25, true), (26, true), (27, true), (29, true), (30, true), (31, true), (28, false), (32, false), (33, true), (34, true), (35, true)] (by kernel_rfl) (by kernel_rfl) ?_
    repeat (first | (refine E.plan_pure (by simp only [List.getElem?_toArray, List.getElem?_cons_succ, List.getElem?_cons_zero]; rfl) (by rfl) (fun K hK => ?_); (go_simp; try go_bits; try go_simp); refine hK _ ?_; clear hK K) | (refine E.plan_load (by simp only [List.getElem?_toArray, List.getElem?_cons_succ, List.getElem?_cons_zero]; rfl) (by rfl) (by rfl) (fun K hK => ?_); (go_simp; try go_bits; try go_simp); refine hK _ ?_; clear hK K) | (refine E.plan_skip (E.Ext.refl _) (by simp only [List.getElem?_toArray, List.getElem?_cons_succ, List.getElem?_cons_zero]; rfl) (by rfl) (fun K hK => ?_); (go_simp; try go_bits; try go_simp); refine hK _ ?_; clear hK K))
    refine E.plan_eff (by simp only [List.getElem?_toArray, List.getElem?_cons_succ, List.getElem?_cons_zero]; rfl) (by rfl) (fun K hK => ?_); (go_simp; try go_bits)
    refine (HCH.out _).mono ?_; rintro e v1 ⟨rfl, hv1⟩; refine hK _ _ hv1 ?_; clear hK K
    have hz1 := (E.Ext.drew w9).trans hv1
    (try clear cHS fHS); replace HS := HS.ext hz1; obtain ⟨cHS, fHS⟩ := HS.facts; (try clear cHX fHX); replace HX := HX.ext hz1; obtain ⟨cHX, fHX⟩ := HX.facts; (try clear cHK fHK); replace HK := HK.ext hz1; obtain ⟨cHK, fHK⟩ := HK.facts; (try clear cHI fHI); replace HI := HI.ext hz1; obtain ⟨cHI, fHI⟩ := HI.facts; (try clear cHA fHA); replace HA := HA.ext hz1; obtain ⟨cHA, fHA⟩ := HA.facts; (try clear cHC fHC); replace HC := HC.ext hz1; obtain ⟨cHC, fHC⟩ := HC.facts
    repeat (first | (refine E.plan_pure (by simp only [List.getElem?_toArray, List.getElem?_cons_succ, List.getElem?_cons_zero]; rfl) (by rfl) (fun K hK => ?_); (go_simp; try go_bits; try go_simp); refine hK _ ?_; clear hK K) | (refine E.plan_load (by simp only [List.getElem?_toArray, List.getElem?_cons_succ, List.getElem?_cons_zero]; rfl) (by rfl) (by rfl) (fun K hK => ?_); (go_simp; try go_bits; try go_simp); refine hK _ ?_; clear hK K) | (refine E.plan_skip (E.Ext.refl _) (by simp only [List.getElem?_toArray, List.getElem?_cons_succ, List.getElem?_cons_zero]; rfl) (by rfl) (fun K hK => ?_); (go_simp; try go_bits; try go_simp); refine hK _ ?_; clear hK K))
    refine E.plan_eff (by simp only [List.getElem?_toArray, List.getElem?_cons_succ, List.getElem?_cons_zero]; rfl) (by rfl) (fun K hK => ?_); (go_simp; try go_bits)
    refine (HCR.out _).mono ?_; rintro e v2 ⟨rfl, hv2⟩; refine hK _ _ hv2 ?_; clear hK K
    (try clear cHS fHS); replace HS := HS.ext hv2; obtain ⟨cHS, fHS⟩ := HS.facts; (try clear cHX fHX); replace HX := HX.ext hv2; obtain ⟨cHX, fHX⟩ := HX.facts; (try clear cHK fHK); replace HK := HK.ext hv2; obtain ⟨cHK, fHK⟩ := HK.facts; (try clear cHI fHI); replace HI := HI.ext hv2; obtain ⟨cHI, fHI⟩ := HI.facts; (try clear cHA fHA); replace HA := HA.ext hv2; obtain ⟨cHA, fHA⟩ := HA.facts; (try clear cHC fHC); replace HC := HC.ext hv2; obtain ⟨cHC, fHC⟩ := HC.facts
    have hz2 := hz1.trans hv2
    repeat (first | (refine E.plan_pure (by simp only [List.getElem?_toArray, List.getElem?_cons_succ, List.getElem?_cons_zero]; rfl) (by rfl) (fun K hK => ?_); (go_simp; try go_bits; try go_simp); refine hK _ ?_; clear hK K) | (refine E.plan_load (by simp only [List.getElem?_toArray, List.getElem?_cons_succ, List.getElem?_cons_zero]; rfl) (by rfl) (by rfl) (fun K hK => ?_); (go_simp; try go_bits; try go_simp); refine hK _ ?_; clear hK K) | (refine E.plan_skip (E.Ext.refl _) (by simp only [List.getElem?_toArray, List.getElem?_cons_succ, List.getElem?_cons_zero]; rfl) (by rfl) (fun K hK => ?_); (go_simp; try go_bits; try go_simp); refine hK _ ?_; clear hK K))
    refine E.plan_eff (by simp only [List.getElem?_toArray, List.getElem?_cons_succ, List.getElem?_cons_zero]; rfl) (by rfl) (fun K hK => ?_); (go_simp; try go_bits)
    refine (fits_any s x A1 c1 _ ((own_sl' hs9).ext hz2) hl).mono ?_; rintro e v3 ⟨rfl, hv3⟩; refine hK _ _ hv3 ?_; clear hK K
    rw [HE.out]
    (try clear cHS fHS); replace HS := HS.ext hv3; obtain ⟨cHS, fHS⟩ := HS.facts; (try clear cHX fHX); replace HX := HX.ext hv3; obtain ⟨cHX, fHX⟩ := HX.facts; (try clear cHK fHK); replace HK := HK.ext hv3; obtain ⟨cHK, fHK⟩ := HK.facts; (try clear cHI fHI); replace HI := HI.ext hv3; obtain ⟨cHI, fHI⟩ := HI.facts; (try clear cHA fHA); replace HA := HA.ext hv3; obtain ⟨cHA, fHA⟩ := HA.facts; (try clear cHC fHC); replace HC := HC.ext hv3; obtain ⟨cHC, fHC⟩ := HC.facts
    have hz3 := hz2.trans hv3
    repeat (first | (refine E.plan_pure (by simp only [List.getElem?_toArray, List.getElem?_cons_succ, List.getElem?_cons_zero]; rfl) (by rfl) (fun K hK => ?_); (go_simp; try go_bits; try go_simp); refine hK _ ?_; clear hK K) | (refine E.plan_load (by simp only [List.getElem?_toArray, List.getElem?_cons_succ, List.getElem?_cons_zero]; rfl) (by rfl) (by rfl) (fun K hK => ?_); (go_simp; try go_bits; try go_simp); refine hK _ ?_; clear hK K) | (refine E.plan_skip (E.Ext.refl _) (by simp only [List.getElem?_toArray, List.getElem?_cons_succ, List.getElem?_cons_zero]; rfl) (by rfl) (fun K hK => ?_); (go_simp; try go_bits; try go_simp); refine hK _ ?_; clear hK K))
    refine E.plan_eff (by simp only [List.getElem?_toArray, List.getElem?_cons_succ, List.getElem?_cons_zero]; rfl) (by rfl) (fun K hK => ?_); (go_simp; try go_bits)
    refine (fitsR_any s x A c _ (hX9.ext hz3) hl).mono ?_; rintro e v4 ⟨rfl, hv4⟩; refine hK _ _ hv4 ?_; clear hK K
    rw [HE.out]
    (try clear cHS fHS); replace HS := HS.ext hv4; obtain ⟨cHS, fHS⟩ := HS.facts; (try clear cHX fHX); replace HX := HX.ext hv4; obtain ⟨cHX, fHX⟩ := HX.facts; (try clear cHK fHK); replace HK := HK.ext hv4; obtain ⟨cHK, fHK⟩ := HK.facts; (try clear cHI fHI); replace HI := HI.ext hv4; obtain ⟨cHI, fHI⟩ := HI.facts; (try clear cHA fHA); replace HA := HA.ext hv4; obtain ⟨cHA, fHA⟩ := HA.facts; (try clear cHC fHC); replace HC := HC.ext hv4; obtain ⟨cHC, fHC⟩ := HC.facts
    have hz4 := hz3.trans hv4
    repeat (first | (refine E.plan_pure (by simp only [List.getElem?_toArray, List.getElem?_cons_succ, List.getElem?_cons_zero]; rfl) (by rfl) (fun K hK => ?_); (go_simp; try go_bits; try go_simp); refine hK _ ?_; clear hK K) | (refine E.plan_load (by simp only [List.getElem?_toArray, List.getElem?_cons_succ, List.getElem?_cons_zero]; rfl) (by rfl) (by rfl) (fun K hK => ?_); (go_simp; try go_bits; try go_simp); refine hK _ ?_; clear hK K) | (refine E.plan_skip (E.Ext.refl _) (by simp only [List.getElem?_toArray, List.getElem?_cons_succ, List.getElem?_cons_zero]; rfl) (by rfl) (fun K hK => ?_); (go_simp; try go_bits; try go_simp); refine hK _ ?_; clear hK K))
    refine E.plan_eff (by simp only [List.getElem?_toArray, List.getElem?_cons_succ, List.getElem?_cons_zero]; rfl) (by rfl) (fun K hK => ?_); (go_simp; try go_bits)
    refine (newest_any x A1 c1 _ ((own_sl' hs9).ext hz4) hl).mono ?_; rintro e v5 ⟨rfl, hv5⟩; refine hK _ _ hv5 ?_; clear hK K
    rw [HNV.out]
    (try clear cHS fHS); replace HS := HS.ext hv5; obtain ⟨cHS, fHS⟩ := HS.facts; (try clear cHX fHX); replace HX := HX.ext hv5; obtain ⟨cHX, fHX⟩ := HX.facts; (try clear cHK fHK); replace HK := HK.ext hv5; obtain ⟨cHK, fHK⟩ := HK.facts; (try clear cHI fHI); replace HI := HI.ext hv5; obtain ⟨cHI, fHI⟩ := HI.facts; (try clear cHA fHA); replace HA := HA.ext hv5; obtain ⟨cHA, fHA⟩ := HA.facts; (try clear cHC fHC); replace HC := HC.ext hv5; obtain ⟨cHC, fHC⟩ := HC.facts
    have hz5 := hz4.trans hv5
    repeat (first | (refine E.plan_pure (by simp only [List.getElem?_toArray, List.getElem?_cons_succ, List.getElem?_cons_zero]; rfl) (by rfl) (fun K hK => ?_); (go_simp; try go_bits; try go_simp); refine hK _ ?_; clear hK K) | (refine E.plan_load (by simp only [List.getElem?_toArray, List.getElem?_cons_succ, List.getElem?_cons_zero]; rfl) (by rfl) (by rfl) (fun K hK => ?_); (go_simp; try go_bits; try go_simp); refine hK _ ?_; clear hK K) | (refine E.plan_skip (E.Ext.refl _) (by simp only [List.getElem?_toArray, List.getElem?_cons_succ, List.getElem?_cons_zero]; rfl) (by rfl) (fun K hK => ?_); (go_simp; try go_bits; try go_simp); refine hK _ ?_; clear hK K))
    refine E.plan_eff (by simp only [List.getElem?_toArray, List.getElem?_cons_succ, List.getElem?_cons_zero]; rfl) (by rfl) (fun K hK => ?_); (go_simp; try go_bits)
    refine (newestR_any x A c _ (hX9.ext hz5) hl).mono ?_; rintro e v6 ⟨rfl, hv6⟩; refine hK _ _ hv6 ?_; clear hK K
    rw [HNV.out]
    (try clear cHS fHS); replace HS := HS.ext hv6; obtain ⟨cHS, fHS⟩ := HS.facts; (try clear cHX fHX); replace HX := HX.ext hv6; obtain ⟨cHX, fHX⟩ := HX.facts; (try clear cHK fHK); replace HK := HK.ext hv6; obtain ⟨cHK, fHK⟩ := HK.facts; (try clear cHI fHI); replace HI := HI.ext hv6; obtain ⟨cHI, fHI⟩ := HI.facts; (try clear cHA fHA); replace HA := HA.ext hv6; obtain ⟨cHA, fHA⟩ := HA.facts; (try clear cHC fHC); replace HC := HC.ext hv6; obtain ⟨cHC, fHC⟩ := HC.facts
    have hz6 := hz5.trans hv6
    repeat (first | (refine E.plan_pure (by simp only [List.getElem?_toArray, List.getElem?_cons_succ, List.getElem?_cons_zero]; rfl) (by rfl) (fun K hK => ?_); (go_simp; try go_bits; try go_simp); refine hK _ ?_; clear hK K) | (refine E.plan_load (by simp only [List.getElem?_toArray, List.getElem?_cons_succ, List.getElem?_cons_zero]; rfl) (by rfl) (by rfl) (fun K hK => ?_); (go_simp; try go_bits; try go_simp); refine hK _ ?_; clear hK K) | (refine E.plan_skip (E.Ext.refl _) (by simp only [List.getElem?_toArray, List.getElem?_cons_succ, List.getElem?_cons_zero]; rfl) (by rfl) (fun K hK => ?_); (go_simp; try go_bits; try go_simp); refine hK _ ?_; clear hK K))
    refine E.plan_eff (by simp only [List.getElem?_toArray, List.getElem?_cons_succ, List.getElem?_cons_zero]; rfl) (by rfl) (fun K hK => ?_); (go_simp; try go_bits)
    refine (judge_at s x A1 c1 k _ ((own_sl' hs9).ext hz6) hl HJV.out).mono ?_; rintro e v7 ⟨rfl, hv7⟩; refine hK _ _ hv7 ?_; clear hK K
    (try clear cHS fHS); replace HS := HS.ext hv7; obtain ⟨cHS, fHS⟩ := HS.facts; (try clear cHX fHX); replace HX := HX.ext hv7; obtain ⟨cHX, fHX⟩ := HX.facts; (try clear cHK fHK); replace HK := HK.ext hv7; obtain ⟨cHK, fHK⟩ := HK.facts; (try clear cHI fHI); replace HI := HI.ext hv7; obtain ⟨cHI, fHI⟩ := HI.facts; (try clear cHA fHA); replace HA := HA.ext hv7; obtain ⟨cHA, fHA⟩ := HA.facts; (try clear cHC fHC); replace HC := HC.ext hv7; obtain ⟨cHC, fHC⟩ := HC.facts
    have hz7 := hz6.trans hv7
    repeat (first | (refine E.plan_pure (by simp only [List.getElem?_toArray, List.getElem?_cons_succ, List.getElem?_cons_zero]; rfl) (by rfl) (fun K hK => ?_); (go_simp; try go_bits; try go_simp); refine hK _ ?_; clear hK K) | (refine E.plan_load (by simp only [List.getElem?_toArray, List.getElem?_cons_succ, List.getElem?_cons_zero]; rfl) (by rfl) (by rfl) (fun K hK => ?_); (go_simp; try go_bits; try go_simp); refine hK _ ?_; clear hK K) | (refine E.plan_skip (E.Ext.refl _) (by simp only [List.getElem?_toArray, List.getElem?_cons_succ, List.getElem?_cons_zero]; rfl) (by rfl) (fun K hK => ?_); (go_simp; try go_bits; try go_simp); refine hK _ ?_; clear hK K))
    refine E.plan_eff (by simp only [List.getElem?_toArray, List.getElem?_cons_succ, List.getElem?_cons_zero]; rfl) (by rfl) (fun K hK => ?_); (go_simp; try go_bits)
    refine (judgeR_any s x A c k _ (hX9.ext hz7) hl).mono ?_; rintro e v8 ⟨rfl, hv8⟩; refine hK _ _ hv8 ?_; clear hK K
    rw [HJV.out]
    (try clear cHS fHS); replace HS := HS.ext hv8; obtain ⟨cHS, fHS⟩ := HS.facts; (try clear cHX fHX); replace HX := HX.ext hv8; obtain ⟨cHX, fHX⟩ := HX.facts; (try clear cHK fHK); replace HK := HK.ext hv8; obtain ⟨cHK, fHK⟩ := HK.facts; (try clear cHI fHI); replace HI := HI.ext hv8; obtain ⟨cHI, fHI⟩ := HI.facts; (try clear cHA fHA); replace HA := HA.ext hv8; obtain ⟨cHA, fHA⟩ := HA.facts; (try clear cHC fHC); replace HC := HC.ext hv8; obtain ⟨cHC, fHC⟩ := HC.facts
    have hz8 := hz7.trans hv8
    repeat (first | (refine E.plan_pure (by simp only [List.getElem?_toArray, List.getElem?_cons_succ, List.getElem?_cons_zero]; rfl) (by rfl) (fun K hK => ?_); (go_simp; try go_bits; try go_simp); refine hK _ ?_; clear hK K) | (refine E.plan_load (by simp only [List.getElem?_toArray, List.getElem?_cons_succ, List.getElem?_cons_zero]; rfl) (by rfl) (by rfl) (fun K hK => ?_); (go_simp; try go_bits; try go_simp); refine hK _ ?_; clear hK K) | (refine E.plan_skip (E.Ext.refl _) (by simp only [List.getElem?_toArray, List.getElem?_cons_succ, List.getElem?_cons_zero]; rfl) (by rfl) (fun K hK => ?_); (go_simp; try go_bits; try go_simp); refine hK _ ?_; clear hK K))
    refine E.plan_nil ?_
    go_wp2_with fail
    have h48 := hx79.trans hz8
    have hoa := own_ext ho4 h48
    refine (overKeys_any A4 _ c4 _ _ _ hoa hpl2).mono ?_
    rintro e w10 ⟨rfl, hxo⟩
    clear cHS fHS cHX fHX cHK fHK cHI fHI cHA fHA cHC fHC
    replace HC := HC.extS hxo (fun e => by obtain ⟨cs, hcs⟩ := own_type hoa e; exact HC.ne hcs (by decide) rfl)
    replace HX := HX.extS hxo (fun e => by obtain ⟨cs, hcs⟩ := own_type hoa e; exact HX.ne hcs (by decide) rfl)
    replace HI := HI.extS hxo (fun e => by obtain ⟨cs, hcs⟩ := own_type hoa e; exact HI.ne hcs (by decide) rfl)
    have z1 := hx13.size
    have z2 := hy4.size
    have z3 := hy5.size
    have ho6' := own_extO (own_ext ho6 h48) hxo (fun g e1 e2 => by
      have h1 := (own_base ho6 e1).1
      have h2 := hlt4 g e2
      omega)
    have hW1v8 := hx13.trans (hy4.trans (hy5.trans (hy6.trans (hy7.trans h48))))
    have hW10 := hW1v8.thenS hxo (fun k hk e => by have := (own_base hoa e).1; omega)
    obtain ⟨cHC, fHC⟩ := HC.facts
    go_wp2_with fail
    refine (overKeys_any A6 _ c6 _ _ _ ho6' htl2).mono ?_
    rintro e w11 ⟨rfl, hxp⟩
    clear cHC fHC
    replace HX := HX.extS hxp (fun e => by obtain ⟨cs, hcs⟩ := own_type ho6' e; exact HX.ne hcs (by decide) rfl)
    replace HI := HI.extS hxp (fun e => by obtain ⟨cs, hcs⟩ := own_type ho6' e; exact HI.ne hcs (by decide) rfl)
    have hW11 := hW10.thenS hxp (fun k hk e => by have := (own_base ho6' e).1; omega)
    obtain ⟨cHX, fHX⟩ := HX.facts
    obtain ⟨cHI, fHI⟩ := HI.facts
    go_wp2_with fail
    refine (sameShelf_same x A1 A c1 c _ (own_sl' (own_ext hs1 hW11)) (h.ext (hxW.trans hW11)) hl).mono ?_
    rintro e w12 ⟨rfl, hx12⟩
    clear cHX fHX cHI fHI
    go_wp2_with fail
    refine (awake_any _).mono ?_
    rintro e w13 ⟨rfl, hxe⟩
    go_wp2_with fail
    go_ret
    exact ⟨rfl, hxW.trans (hW11.trans (hx12.trans hxe))⟩
end Go.Proofs.Ytedpkficechjnaa.BJ
