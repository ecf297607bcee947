/- The ring's keys; what the law's own functions build. -/
import Derived.Test.YtjomgaafnpbmhaaH
namespace Go.Proofs.Ytjomgaafnpbmhaa.I
open Go.RowKit
open Go.Proofs.Ytjomgaafnpbmhaa
open Go.Proofs.Ytjomgaafnpbmhaa.A Go.Proofs.Ytjomgaafnpbmhaa.K Go.Proofs.Ytjomgaafnpbmhaa.B Go.Proofs.Ytjomgaafnpbmhaa.C Go.Proofs.Ytjomgaafnpbmhaa.D Go.Proofs.Ytjomgaafnpbmhaa.F Go.Proofs.Ytjomgaafnpbmhaa.G Go.Proofs.Ytjomgaafnpbmhaa.H
set_option linter.unusedVariables false
set_option linter.unusedSimpArgs false
variable {F : Nat → Prop}

def kcells (k : Key) : List Value := [.int .i64 k.stamp, .int .i64 k.sensor, .int .i64 k.seq]
def keyCells (l : List Key) : List Value := l.flatMap kcells
theorem keyCells_len (l : List Key) : (keyCells l).length = l.length * 3 := by
  induction l with
  | nil => rfl
  | cons k l ih => simp only [keyCells, List.flatMap_cons, List.length_append, List.length_cons] at *; rw [ih]; simp [kcells]; omega
theorem keyCells_snoc (l : List Key) (k : Key) : keyCells (l ++ [k]) = keyCells l ++ kcells k := by simp [keyCells]
theorem keyCells_one (l : List Key) : ∀ u ∈ keyCells l, u.oneCell' = true := by
  intro u hu
  obtain ⟨k, _, hk⟩ := List.mem_flatMap.1 hu
  simp only [kcells, List.mem_cons, List.not_mem_nil, or_false] at hk
  rcases hk with rfl | rfl | rfl <;> rfl
theorem keyCells_get {l : List Key} {i : Nat} {k : Key} (h : l[i]? = some k) : ∀ j, j < 3 → (keyCells l)[i * 3 + j]? = (kcells k)[j]? := by
  induction l generalizing i with
  | nil => simp at h
  | cons x l ih =>
    intro j hj
    simp only [keyCells, List.flatMap_cons]
    cases i with
    | zero =>
      simp at h
      subst h
      rw [Nat.zero_mul, Nat.zero_add, List.getElem?_append_left (by simp [kcells]; omega)]
    | succ i =>
      rw [List.getElem?_append_right (by simp [kcells]; omega)]
      have := ih (i := i) (by simpa using h) j hj
      unfold keyCells at this
      rw [← this]
      congr 1
      simp [kcells]
      omega

/-- Keys in a slice of the call's own. -/
def OwnedK (w : World) (l : List Key) (e : Ending) (w' : World) : Prop :=
  ∃ A c, e = .returned (.slice A l.length c) ∧ E.Ext w w' ∧ w'.ownsRow w.heap.size 57 3 (.slice A l.length c) l.length (keyCells l)

theorem take_snoc_key (l : List Entry) (k : Nat) (y : Entry) (h : l[k]? = some y) : (l.take (k + 1)).map Entry.key = (l.take k).map Entry.key ++ [y.key] := by
  have hk := (List.getElem?_eq_some_iff.1 h)
  obtain ⟨hk, rfl⟩ := hk
  rw [List.take_succ_eq_append_getElem hk, List.map_append]
  rfl

set_option maxHeartbeats 800000 in
theorem keys_any (b pb : Nat) (r : RingD) (w : World) (hr : RingAt F w b pb r) :
    Calls Try.prog 16 #[.pointer (some ⟨b, 0, none⟩)] w (OwnedK w (r.l.map Entry.key)) := by
  have hK := hr.ok.pos
  have hmost := hr.ok.most
  have hmany := hr.ok.many
  obtain ⟨cb, fb⟩ := hr.struct.facts
  have hst := hr.struct
  go_enter Try.func16, Try.ntmps16
  go_wp2_with (go_at_call 28; refine (none_any b pb r _ hst hK).mono ?_; rintro e w' ⟨rfl, rfl⟩)
  go_loopw [3, 11] (fun o v wr => ∃ (k : Nat) (A : Option Addr) (c : Nat), v = .int .i64 k ∧ o = .slice A k c ∧ k ≤ r.l.length ∧ E.Ext w wr ∧ wr.ownsRow w.heap.size 57 3 (.slice A k c) k (keyCells ((r.l.take k).map Entry.key))) (fun _ v _ => r.l.length - (intOf v).toNat)
  case atStart => exact ⟨0, none, 0, rfl, rfl, Nat.zero_le _, E.Ext.refl _, World.ownsRow_nil _ _ _ _⟩
  case round =>
    obtain ⟨k, A, c, rfl, rfl, hk, hx, hown⟩ := hrel
    have hrr := hr.ext hx
    by_cases hlt : k < r.l.length
    · obtain ⟨y, hy⟩ : ∃ y, r.l[k]? = some y := ⟨r.l[k], List.getElem?_eq_getElem hlt⟩
      have HY := Lib.hid hy
      clear hy
      go_wp2_with fail
      refine (at_any b pb r k _ hrr.struct hr.ok (by omega)).mono ?_
      rintro e w1 ⟨rfl, hx1⟩
      obtain ⟨_, hb3, ps, hps1, hps, hpl⟩ := (hrr.ext hx1).get
      obtain ⟨g, hg, A1, c1, hge, hgo, _⟩ := hpl k y HY.out
      have cps := hps.cell
      have cge := hge.cell
      go_wp2_with fail
      refine (of_any y A1 c1 _).mono ?_
      rintro e w2 ⟨rfl, hx2⟩
      dsimp only [Key.val, Entry.key]
      have hx12 := (hx.trans hx1).trans hx2
      have hown2 := own_ext (own_ext (own_ext hown hx1) hx2) (E.Ext.alloc w2 (.cells #[.int .i64 y.stamp, .int .i64 y.sensor, .int .i64 y.seq] 57))
      have hsl := Sl.blk (size := 3) (n := 1) (c := 1) (E.Blk.new w2 57 #[.int .i64 y.stamp, .int .i64 y.sensor, .int .i64 y.seq]) rfl (by omega) (by omega)
      have hsz := hx12.size
      go_wp2_with (at_builtin; refine wpList_append_sl st47 rfl _ _ rfl w.heap.size _ k _ rfl hown2 _ 1 1 _ rfl hsl (keyCells_one [y.key]) (by omega) (by decide) (by simp; omega) ?_; intro v' w3 hown3 hb3 _; obtain ⟨A3, c3, hv3, _⟩ := own_sl hown3; rw [hv3] at hown3 ⊢)
      go_roundw
      case rel => exact ⟨k + 1, A3, c3, by go_num, rfl, by omega, (hx12.trans (E.Ext.alloc _ _)).then hb3, by rw [take_snoc_key _ _ _ HY.out, keyCells_snoc]; exact hown3⟩
      case measure => simp [intOf]; omega
    · go_wp2_with fail
      go_ret
      have hkk : k = r.l.length := by omega
      subst hkk
      rw [List.take_length] at hown
      have hl : (r.l.map Entry.key).length = r.l.length := by simp
      exact ⟨A, c, by rw [hl]; rfl, hx, by rw [hl]; exact hown⟩

/-- The three cells of the key at k. -/
theorem key_at {w : World} {A : Option Addr} {c : Nat} {l : List Key} (h : Sl w 3 A l.length c (keyCells l)) {k : Nat} (hk : k < l.length) :
    ∃ b o, A = some ⟨b, o, none⟩ ∧ w.cell? ⟨b, o + k * 3, none⟩ = some (.int .i64 l[k].stamp) ∧ w.cell? ⟨b, o + k * 3 + 1, none⟩ = some (.int .i64 l[k].sensor) ∧ w.cell? ⟨b, o + k * 3 + 2, none⟩ = some (.int .i64 l[k].seq) := by
  have hg : l[k]? = some l[k] := List.getElem?_eq_getElem hk
  obtain ⟨b, o, rfl, _, hc⟩ := h.cells (by
    intro e
    have := h.len
    rw [e] at this
    simp only [List.length_nil] at this
    omega)
  refine ⟨b, o, rfl, ?_, ?_, ?_⟩
  · exact hc (k * 3) _ (keyCells_get hg 0 (by omega))
  · rw [Nat.add_assoc]; exact hc (k * 3 + 1) _ (keyCells_get hg 1 (by omega))
  · rw [Nat.add_assoc]; exact hc (k * 3 + 2) _ (keyCells_get hg 2 (by omega))

theorem take_eq_succ {l l' : List Key} {k : Nat} (h : k < l.length) (h' : k < l'.length) (e : l.take k = l'.take k) : l.take (k + 1) = l'.take (k + 1) ↔ l[k] = l'[k] := by
  rw [List.take_succ_eq_append_getElem h, List.take_succ_eq_append_getElem h', e]
  exact ⟨fun h => by have := List.append_cancel_left h; simpa using this, fun h => by rw [h]⟩

set_option maxHeartbeats 800000 in
theorem sameKeys_any (l l' : List Key) (A A' : Option Addr) (c c' : Nat) (w : World) (h : Sl w 3 A l.length c (keyCells l)) (h' : Sl w 3 A' l'.length c' (keyCells l')) (hl : l.length ≤ 1099511627776) (hl' : l'.length ≤ 1099511627776) :
    Calls Try.prog 17 #[.slice A l.length c, .slice A' l'.length c'] w fun e w' => e = .returned (.bool (decide (l = l'))) ∧ E.Ext w w' := by
  have hb : ((l.length : Int) == (l'.length : Int)) = decide (l.length = l'.length) := by
    rw [Bool.eq_iff_iff, beq_iff_eq, decide_eq_true_eq]; omega
  by_cases hlen : l.length = l'.length
  · have hb1 : ((l.length : Int) == (l'.length : Int)) = true := by rw [hb]; simpa using hlen
    have HL := Lib.hid hlen
    clear hb hlen
    go_enter Try.func17, Try.ntmps17
    go_wp2
    go_loopw [5, 6] (fun s v wr => ∃ (k : Nat) (sb : Bool), s = .bool sb ∧ v = .int .i64 k ∧ k ≤ l.length ∧ E.Ext w wr ∧ (sb = true ↔ l.take k = l'.take k)) (fun _ v _ => l.length - (intOf v).toNat)
    case atStart => exact ⟨0, true, rfl, rfl, Nat.zero_le _, E.Ext.refl _, by simp⟩
    case round =>
      obtain ⟨k, sb, rfl, rfl, hk, hx, hs⟩ := hrel
      cases sb with
      | false =>
        have HS := Lib.hid (show ¬ l.take k = l'.take k from fun e => by have := hs.2 e; cases this)
        clear hs
        go_wp2
        go_ret
        refine ⟨?_, hx⟩
        have : ¬ l = l' := fun e => HS.out (by rw [e])
        simp [this]
      | true =>
        have HS := Lib.hid (hs.1 rfl)
        clear hs
        by_cases hlt : k < l.length
        · have hlt' : k < l'.length := by have := HL.out; omega
          obtain ⟨b, o, rfl, k0, k1, k2⟩ := key_at (h.ext hx) hlt
          obtain ⟨b', o', rfl, m0, m1, m2⟩ := key_at (h'.ext hx) hlt'
          have hk1 := fun w' x y xs ys => guardKey w' x y xs ys
          by_cases heq : l[k] = l'[k]
          · have hk2 := eqKey_yes heq
            have HE := Lib.hid heq
            clear heq
            dsimp only [Key.val] at hk2
            go_wp2
            refine E.wp_plan E.ext_pre 1000000 [(0, true), (1, true), (2, true), (3, true), (4, true), (5, true), (6, true), (7, true), (8, true), (9, true)] (by kernel_rfl) (by kernel_rfl) ?_
            repeat (first | (refine E.plan_pure (by simp only [List.getElem?_toArray, List.getElem?_cons_succ, List.getElem?_cons_zero]; rfl) (by rfl) (fun K hK => ?_); (go_simp; try go_bits; try go_simp); refine hK _ ?_; clear hK K) | (refine E.plan_load (by simp only [List.getElem?_toArray, List.getElem?_cons_succ, List.getElem?_cons_zero]; rfl) (by rfl) (by rfl) (fun K hK => ?_); (go_simp; try go_bits; try go_simp); refine hK _ ?_; clear hK K) | (refine E.plan_skip (E.Ext.refl _) (by simp only [List.getElem?_toArray, List.getElem?_cons_succ, List.getElem?_cons_zero]; rfl) (by rfl) (fun K hK => ?_); (go_simp; try go_bits; try go_simp); refine hK _ ?_; clear hK K))
            refine E.plan_nil ?_
            go_wp2
            go_roundw
            case rel => exact ⟨k + 1, true, rfl, by go_num, by omega, hx.trans (E.Ext.drew _), by simp only [true_iff]; exact (take_eq_succ hlt hlt' (HS.out)).2 HE.out⟩
            case measure => simp [intOf]; omega
          · have hk2 := eqKey_no heq
            have HE := Lib.hid heq
            clear heq
            dsimp only [Key.val] at hk2
            go_wp2
            refine E.wp_plan E.ext_pre 1000000 [(0, true), (1, true), (2, true), (3, true), (4, true), (5, true), (6, true), (7, true), (8, true), (9, true)] (by kernel_rfl) (by kernel_rfl) ?_
            repeat (first | (refine E.plan_pure (by simp only [List.getElem?_toArray, List.getElem?_cons_succ, List.getElem?_cons_zero]; rfl) (by rfl) (fun K hK => ?_); (go_simp; try go_bits; try go_simp); refine hK _ ?_; clear hK K) | (refine E.plan_load (by simp only [List.getElem?_toArray, List.getElem?_cons_succ, List.getElem?_cons_zero]; rfl) (by rfl) (by rfl) (fun K hK => ?_); (go_simp; try go_bits; try go_simp); refine hK _ ?_; clear hK K) | (refine E.plan_skip (E.Ext.refl _) (by simp only [List.getElem?_toArray, List.getElem?_cons_succ, List.getElem?_cons_zero]; rfl) (by rfl) (fun K hK => ?_); (go_simp; try go_bits; try go_simp); refine hK _ ?_; clear hK K))
            refine E.plan_nil ?_
            go_wp2
            go_roundw
            case rel => exact ⟨k + 1, false, rfl, by go_num, by omega, hx.trans (E.Ext.drew _), by simp only [Bool.false_eq_true, false_iff]; exact fun e => HE.out ((take_eq_succ hlt hlt' (HS.out)).1 e)⟩
            case measure => simp [intOf]; omega
        · go_wp2
          go_ret
          refine ⟨?_, hx⟩
          have : l = l' := by
            have h1 := HS.out
            have h2 := HL.out
            rwa [List.take_of_length_le (by omega), List.take_of_length_le (by omega)] at h1
          simp [this]
  · have hb1 : ((l.length : Int) == (l'.length : Int)) = false := by rw [hb]; simpa using hlen
    have hne : ¬ l = l' := fun e => hlen (by rw [e])
    have HN := Lib.hid hne
    clear hb hlen hne
    go_enter Try.func17, Try.ntmps17
    go_wp2
    refine wp_loop_rounds 1 ?_
    rw [rounds_succ]
    go_wp2
    go_ret
    exact ⟨by simp [HN.out], E.Ext.refl _⟩
end Go.Proofs.Ytjomgaafnpbmhaa.I
