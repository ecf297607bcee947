/- Setups and shelves: what they are, which may be, what is told of them. -/
import Derived.Test.YtedpkficechjnaaKT
namespace Go.Proofs.Ytedpkficechjnaa.AS
open Go.RowKit
open Go.Proofs.Ytedpkficechjnaa
open Go.Proofs.Ytedpkficechjnaa.KA Go.Proofs.Ytedpkficechjnaa.K Go.Proofs.Ytedpkficechjnaa.KB Go.Proofs.Ytedpkficechjnaa.KI Go.Proofs.Ytedpkficechjnaa.KQ Go.Proofs.Ytedpkficechjnaa.S Go.Proofs.Ytedpkficechjnaa.KR Go.Proofs.Ytedpkficechjnaa.KS Go.Proofs.Ytedpkficechjnaa.KT
set_option linter.unusedVariables false
set_option linter.unusedSimpArgs false

structure Setup where
  keep : Int
  horizon : Int
  ahead : Int
  budget : Int
  window : Int
def Setup.val (s : Setup) : Value := .agg #[.int .i64 s.keep, .int .i64 s.horizon, .int .i64 s.ahead, .int .i64 s.budget, .int .i64 s.window]
structure Shelf where
  base : Int
  keys : List Key
  clean : Int
def Shelf.val (x : Shelf) (A : Option Addr) (c : Nat) : Value := .agg #[.int .i64 x.base, .slice A x.keys.length c, .int .i64 x.clean]
def noShelf : Shelf := ⟨0, [], 0⟩

/-- Is a number from one to another one? -/
def win (n lo hi : Int) : Bool := decide (lo ≤ n ∧ n ≤ hi)
theorem win_iff {n lo hi : Int} : win n lo hi = true ↔ lo ≤ n ∧ n ≤ hi := by unfold win; simp
def checkB (s : Setup) : Bool := win s.keep 1 200 && (win s.horizon 0 1099511627776 && (win s.ahead 0 1073741824 && (win s.budget 1 200 && win s.window 1 32)))
def twinsB (x k : Key) : Bool := decide (x.sensor = k.sensor ∧ x.seq = k.seq)
def twinB (l : List Key) (k : Key) : Bool := l.any (fun x => twinsB x k)
/-- May the key at i be? -/
def seatB (x : Shelf) (i : Nat) (k : Key) : Bool := win k.stamp x.base 1099511627776 && !twinB (x.keys.take i) k
def seatsP (x : Shelf) : Prop := ∀ (i : Nat) k, x.keys[i]? = some k → seatB x i k = true
def shapeB (s : Setup) (x : Shelf) : Bool := checkB s && (win x.base 0 1099511627776 && (decide ((x.keys.length : Int) ≤ s.keep) && win x.clean 0 x.keys.length))
def FitsP (s : Setup) (x : Shelf) : Prop := shapeB s x = true ∧ Up x.keys ∧ seatsP x
noncomputable def fitsE (s : Setup) (x : Shelf) : Int := open Classical in if FitsP s x then 0 else 2
theorem fits_yes {s : Setup} {x : Shelf} (h : FitsP s x) : fitsE s x = 0 := if_pos h
theorem fits_no {s : Setup} {x : Shelf} (h : ¬ FitsP s x) : fitsE s x = 2 := if_neg h
theorem fits_len {s : Setup} {x : Shelf} (h : FitsP s x) : x.keys.length ≤ 200 := by
  have h1 := h.1
  unfold shapeB checkB at h1
  simp only [Bool.and_eq_true, win_iff, decide_eq_true_eq] at h1
  omega
theorem fits_all {s : Setup} {x : Shelf} (h : FitsP s x) : (1 ≤ s.keep ∧ s.keep ≤ 200) ∧ (0 ≤ s.horizon ∧ s.horizon ≤ 1099511627776) ∧ (1 ≤ s.budget ∧ s.budget ≤ 200) ∧ (0 ≤ x.base ∧ x.base ≤ 1099511627776) ∧ (x.keys.length : Int) ≤ s.keep ∧ (0 ≤ x.clean ∧ x.clean ≤ x.keys.length) := by
  have h1 := h.1
  unfold shapeB checkB at h1
  simp only [Bool.and_eq_true, win_iff, decide_eq_true_eq] at h1
  omega
theorem fits_stamp {s : Setup} {x : Shelf} (h : FitsP s x) {i : Nat} {k : Key} (hk : x.keys[i]? = some k) : x.base ≤ k.stamp ∧ k.stamp ≤ 1099511627776 := by
  have h1 := h.2.2 i k hk
  unfold seatB at h1
  simp only [Bool.and_eq_true, win_iff] at h1
  exact h1.1

def newest (x : Shelf) : Int := match x.keys.getLast? with
  | none => x.base
  | some k => k.stamp
def fullB (s : Setup) (x : Shelf) : Bool := decide ((x.keys.length : Int) = s.keep)
def headStamp (x : Shelf) : Int := match x.keys.head? with
  | none => 0
  | some k => k.stamp
def floor0 (s : Setup) (x : Shelf) : Int := if fullB s x then max (max x.base (newest x - s.horizon)) (headStamp x) else max x.base (newest x - s.horizon)
noncomputable def floorV (s : Setup) (x : Shelf) : Int := open Classical in if FitsP s x then floor0 s x else 0
def lateB (s : Setup) (x : Shelf) (k : Key) (f : Int) : Bool := decide (k.stamp < f) || (fullB s x && match x.keys.head? with
  | none => false
  | some h => k.lt h)
def busyB (s : Setup) (x : Shelf) : Bool := fullB s x && decide (x.clean = 0)
/-- May neither the shelf nor the key's stamp be? -/
def badB (f : Int) (k : Key) : Bool := decide (f ≠ 0) || !win k.stamp 0 1099511627776
noncomputable def judge (s : Setup) (x : Shelf) (k : Key) : Int :=
  if badB (fitsE s x) k then 2
  else if twinB x.keys k then 7
  else if lateB s x k (floorV s x) then 6
  else if busyB s x then 12
  else 0
/-- The shelf out of which a key was taken, if it is full. -/
def room (s : Setup) (x : Shelf) : Shelf := if fullB s x then ⟨headStamp x, x.keys.tail, x.clean - 1⟩ else x
def putAt (x : Shelf) (k : Key) : Shelf := ⟨x.base, x.keys.take (kpos x.keys k) ++ k :: x.keys.drop (kpos x.keys k), min x.clean (kpos x.keys k)⟩
noncomputable def put (s : Setup) (x : Shelf) (k : Key) : Shelf × Int × Int :=
  if judge s x k ≠ 0 then (noShelf, 0, judge s x k) else (putAt (room s x) k, ((kpos (room s x).keys k : Nat) : Int), 0)
def ticks (s : Setup) (x : Shelf) : Int := min s.budget ((x.keys.length : Int) - x.clean)
noncomputable def tick (s : Setup) (x : Shelf) : Shelf × Int × Int :=
  open Classical in if FitsP s x then (⟨x.base, x.keys, x.clean + ticks s x⟩, ticks s x, 0) else (noShelf, 0, 2)

/-- A shelf as a result, with keys of its own. -/
def OwnedS (w : World) (x : Shelf) (n err : Int) (e : Ending) (w' : World) : Prop :=
  ∃ A c, e = .returned (.tuple #[x.val A c, .int .i64 n, .int .i64 err]) ∧ E.Ext w w' ∧ w'.ownsRow w.heap.size 28 3 (.slice A x.keys.length c) x.keys.length (keyCells x.keys)
end Go.Proofs.Ytedpkficechjnaa.AS
