/- Turns that come in; Long; OverKeys; which blocks hold numbers. -/
import Derived.Test.YtjomgaafnpbmhaaY
import Derived.Test.YtjomgaafnpbmhaaN
namespace Go.Proofs.Ytjomgaafnpbmhaa.Z
open Go.RowKit
open Go.Proofs.Ytjomgaafnpbmhaa
open Go.Proofs.Ytjomgaafnpbmhaa.A Go.Proofs.Ytjomgaafnpbmhaa.K Go.Proofs.Ytjomgaafnpbmhaa.B Go.Proofs.Ytjomgaafnpbmhaa.C Go.Proofs.Ytjomgaafnpbmhaa.D Go.Proofs.Ytjomgaafnpbmhaa.F Go.Proofs.Ytjomgaafnpbmhaa.G Go.Proofs.Ytjomgaafnpbmhaa.H Go.Proofs.Ytjomgaafnpbmhaa.I Go.Proofs.Ytjomgaafnpbmhaa.J Go.Proofs.Ytjomgaafnpbmhaa.M Go.Proofs.Ytjomgaafnpbmhaa.O Go.Proofs.Ytjomgaafnpbmhaa.P Go.Proofs.Ytjomgaafnpbmhaa.R Go.Proofs.Ytjomgaafnpbmhaa.V Go.Proofs.Ytjomgaafnpbmhaa.W Go.Proofs.Ytjomgaafnpbmhaa.X Go.Proofs.Ytjomgaafnpbmhaa.Y
set_option linter.unusedVariables false
set_option linter.unusedSimpArgs false

/-! ### Turns -/
structure Turn where
  e : Entry
  drops : Bool
  place : Int
def Turn.val (x : Turn) (A : Option Addr) (c : Nat) : Value := .agg #[.int .i64 x.e.stamp, .int .i64 x.e.sensor, .int .i64 x.e.seq, .bool x.e.input, .slice A x.e.data.length c, .bool x.drops, .int .i64 x.place]
structure TurnIn (w : World) (b p : Nat) (x : Turn) : Prop where
  ent : EntIn w b p x.e
  c5 : w.cell? ⟨b, p + 5, none⟩ = some (.bool x.drops)
  c6 : w.cell? ⟨b, p + 6, none⟩ = some (.int .i64 x.place)
structure Turned (w : World) (A : Option Addr) (c : Nat) (l : List Turn) : Prop where
  cap : l.length ≤ c
  max : c ≤ 9223372036854775807
  at_ : 0 < l.length → ∃ b o, A = some ⟨b, o, none⟩ ∧ b < w.heap.size ∧ ∀ (i : Nat) x, l[i]? = some x → TurnIn w b (o + i * 7) x
theorem TurnIn.ext {w w' : World} {b p : Nat} {x : Turn} (h : TurnIn w b p x) (hx : E.Ext w w') (hb : b < w.heap.size) : TurnIn w' b p x :=
  ⟨h.ent.ext hx hb, (hx.cell (p := ⟨b, p + 5, none⟩) hb).trans h.c5, (hx.cell (p := ⟨b, p + 6, none⟩) hb).trans h.c6⟩
theorem Turned.ext {w w' : World} {A : Option Addr} {c : Nat} {l : List Turn} (h : Turned w A c l) (hx : E.Ext w w') : Turned w' A c l :=
  ⟨h.cap, h.max, fun h0 => by
    obtain ⟨b, o, e, hb, hi⟩ := h.at_ h0
    exact ⟨b, o, e, Nat.lt_of_lt_of_le hb hx.size, fun i x hx' => (hi i x hx').ext hx hb⟩⟩

def IsLong (l : List Turn) : Prop := 60 < l.length ∨ ∃ x, x ∈ l ∧ 20 < x.e.data.length
set_option maxHeartbeats 800000 in
theorem long_yes (l : List Turn) (A : Option Addr) (c : Nat) (w : World) (hl : Turned w A c l) (h : IsLong l) :
    Calls Try.prog 14 #[.slice A l.length c] w fun e w' => e = .returned (.bool true) ∧ w = w' := by
  have hcap := hl.cap
  have hmax := hl.max
  have HI := Lib.hid h
  clear h
  go_enter Try.func14, Try.ntmps14
  go_wp2
  go_loop [3] (fun v => ∃ k : Nat, v = .int .i64 k ∧ k ≤ l.length ∧ k ≤ 61 ∧ ∀ (j : Nat) x, j < k → l[j]? = some x → x.e.data.length ≤ 20) (fun v => 61 - (intOf v).toNat)
  case atStart => exact ⟨0, rfl, Nat.zero_le _, by omega, fun j x hj => by omega⟩
  case round =>
    obtain ⟨k, rfl, hk, hk61, hno⟩ := hrel
    have HNO := Lib.hid hno
    clear hno
    by_cases hlt : k < l.length
    · by_cases h61 : k < 61
      · obtain ⟨b, o, rfl, hb, hat⟩ := hl.at_ (by omega)
        obtain ⟨y, hy⟩ : ∃ y, l[k]? = some y := ⟨l[k], List.getElem?_eq_getElem hlt⟩
        obtain ⟨⟨c0, c1, c2, c3, A', c', c4, hsl⟩, c5, c6⟩ := hat k y hy
        have HY := Lib.hid hy
        have hm1 := hsl.cap
        have hm2 := hsl.max
        clear hy hat
        by_cases h20 : 20 < y.e.data.length
        · go_wp2
          go_ret
          exact ⟨rfl, rfl⟩
        · go_wp2
          go_round
          case rel => exact ⟨k + 1, by go_num, by omega, by omega, fun j x hj hx => by
            by_cases hjk : j = k
            · subst hjk
              rw [HY.out] at hx
              cases hx
              omega
            · exact HNO.out j x (by omega) hx⟩
          case measure => simp [intOf]; omega
      · have h60 : 60 < l.length := by omega
        go_wp2
        go_ret
        exact ⟨by show Ending.returned (.bool (decide ((60 : Int) < l.length))) = _; rw [decide_eq_true (by omega)], rfl⟩
    · have h60 : 60 < l.length := by
        rcases HI.out with h | ⟨x, hx, h20⟩
        · exact h
        · exfalso
          obtain ⟨j, hj⟩ := List.getElem?_of_mem hx
          have h1 := (List.getElem?_eq_some_iff.1 hj).1
          have h2 := HNO.out j x (by omega) hj
          omega
      go_wp2
      go_ret
      exact ⟨by show Ending.returned (.bool (decide ((60 : Int) < l.length))) = _; rw [decide_eq_true (by omega)], rfl⟩
set_option maxHeartbeats 800000 in
theorem long_no (l : List Turn) (A : Option Addr) (c : Nat) (w : World) (hl : Turned w A c l) (h : ¬ IsLong l) :
    Calls Try.prog 14 #[.slice A l.length c] w fun e w' => e = .returned (.bool false) ∧ w = w' := by
  have hcap := hl.cap
  have hmax := hl.max
  have h60 : l.length ≤ 60 := by
    rcases Nat.lt_or_ge 60 l.length with h1 | h1
    · exact (h (Or.inl h1)).elim
    · exact h1
  have HI := Lib.hid h
  clear h
  go_enter Try.func14, Try.ntmps14
  go_wp2
  go_loop [3] (fun v => ∃ k : Nat, v = .int .i64 k ∧ k ≤ l.length) (fun v => l.length - (intOf v).toNat)
  case atStart => exact ⟨0, rfl, Nat.zero_le _⟩
  case round =>
    obtain ⟨k, rfl, hk⟩ := hrel
    by_cases hlt : k < l.length
    · have h61 : k < 61 := by omega
      obtain ⟨b, o, rfl, hb, hat⟩ := hl.at_ (by omega)
      obtain ⟨y, hy⟩ : ∃ y, l[k]? = some y := ⟨l[k], List.getElem?_eq_getElem hlt⟩
      obtain ⟨⟨c0, c1, c2, c3, A', c', c4, hsl⟩, c5, c6⟩ := hat k y hy
      have hm1 := hsl.cap
      have hm2 := hsl.max
      have h20 : ¬ 20 < y.e.data.length := fun h => HI.out (Or.inr ⟨y, List.mem_of_getElem? hy, h⟩)
      clear hy hat
      go_wp2
      go_round
      case rel => exact ⟨k + 1, by go_num, by omega⟩
      case measure => simp [intOf]; omega
    · go_wp2
      go_ret
      exact ⟨by show Ending.returned (.bool (decide ((60 : Int) < l.length))) = _; rw [decide_eq_false (by omega)], rfl⟩

set_option maxHeartbeats 800000 in
theorem overKeys_any (A : Option Addr) (n c base : Nat) (xs : List Value) (w : World) (h : w.ownsRow base 57 3 (.slice A n c) n xs) (hn : n ≤ 1099511627776) :
    Calls Try.prog 19 #[.slice A n c] w fun e w' => e = .returned (.tuple #[]) ∧ E.ExtS (fun k => (Value.slice A n c).ownBlock = some k) w w' := by
  rcases Nat.eq_zero_or_pos n with h0 | h0
  · subst h0
    go_enter Try.func19, Try.ntmps19
    go_wp2
    refine wp_loop_rounds 1 ?_
    rw [rounds_succ]
    go_wp2
    go_end0
    exact ⟨rfl, E.ExtS.refl _ _⟩
  · obtain ⟨g, c', cs, hv, _, hB, hsz⟩ := own_blk h h0
    have hcc : A = some ⟨g, 0, none⟩ ∧ c = c' := by injection hv with h1 _ h3; exact ⟨h1, h3⟩
    obtain ⟨rfl, rfl⟩ := hcc
    clear hv h
    go_enter Try.func19, Try.ntmps19
    go_wp2
    go_loopw [2] (fun v wr => ∃ (k : Nat) (cs' : Array Value), v = .int .i64 k ∧ k ≤ n ∧ E.Blk wr g 57 cs' ∧ n * 3 ≤ cs'.size ∧ E.ExtS (fun i => some g = some i) w wr) (fun v _ => n - (intOf v).toNat)
    case atStart => exact ⟨0, cs, rfl, Nat.zero_le _, hB, by omega, E.ExtS.refl _ _⟩
    case round =>
      obtain ⟨k, cs', rfl, hk, hB', hs', hx⟩ := hrel
      obtain ⟨cc, ff⟩ := hB'.facts
      by_cases hlt : k < n
      · have hold0 : cs'[k * 3]? = some (cs'[k * 3]'(by omega)) := Array.getElem?_eq_getElem (by omega)
        have hold1 : cs'[k * 3 + 1]? = some (cs'[k * 3 + 1]'(by omega)) := Array.getElem?_eq_getElem (by omega)
        have hold2 : cs'[k * 3 + 2]? = some (cs'[k * 3 + 2]'(by omega)) := Array.getElem?_eq_getElem (by omega)
        generalize cs'[k * 3]'(by omega) = old0 at hold0
        generalize cs'[k * 3 + 1]'(by omega) = old1 at hold1
        generalize cs'[k * 3 + 2]'(by omega) = old2 at hold2
        have hs'' := Lib.hid hs'
        clear hs'
        go_wp2
        go_roundw
        case rel => exact ⟨k + 1, _, by go_num, by omega, ((hB'.set (k * 3) _).set (k * 3 + 1) _).set (k * 3 + 2) _, by simpa using hs''.out, ((hx.set (p := ⟨g, k * 3, none⟩) (Or.inl rfl) _).set (p := ⟨g, k * 3 + 1, none⟩) (Or.inl rfl) _).set (p := ⟨g, k * 3 + 2, none⟩) (Or.inl rfl) _⟩
        case measure => simp [intOf]; omega
      · go_wp2
        go_end0
        exact ⟨rfl, hx⟩

/-! ### Which blocks hold numbers -/
section
variable {F F' : Nat → Prop} {w w' : World} {b pb rb K : Nat} {r : RingD} {l : List Entry} {S : Nat → Prop}
def D3 (w : World) (k : Nat) : Prop := ∃ cs, E.Blk w k 3 cs
theorem own_D3 {base n : Nat} {v : Value} {xs : List Value} (h : w.ownsRow base 3 1 v n xs) : ∀ k, v.ownBlock = some k → D3 w k := fun k hk => own_type h hk
theorem ringAt_D3 (h : RingAt F w b pb r) : RingAt (D3 w) w b pb r := by
  obtain ⟨h1, h2, ps, gp, h3, h4, h5⟩ := h
  refine ⟨h1, h2, ps, gp, h3, h4, fun i x hi => ⟨(h5 i x hi).1, ?_⟩⟩
  obtain ⟨A, c, k1, k2, k3⟩ := (h5 i x hi).2
  exact ⟨A, c, k1, k2, own_D3 k2⟩
theorem refAt_D3 (h : RefAt F w rb K l) : RefAt (D3 w) w rb K l := by
  obtain ⟨rs, A, c, h1, h2, h3, h4⟩ := h
  exact ⟨rs, A, c, h1, h2, h3, fun r hr => ⟨(h4 r hr).1, own_D3 (h4 r hr).1⟩⟩
end
end Go.Proofs.Ytjomgaafnpbmhaa.Z
