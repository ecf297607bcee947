/- Entries: what they are in memory; clones, copies, keys. -/
import Derived.Test.YtedpkficechjnaaKA
import Derived.Test.YtedpkficechjnaaK
import Derived.WalkSpells
namespace Go.Proofs.Ytedpkficechjnaa.KB
open Go.RowKit
open Go.Proofs.Ytedpkficechjnaa
open Go.Proofs.Ytedpkficechjnaa.KA Go.Proofs.Ytedpkficechjnaa.K
set_option linter.unusedVariables false
set_option linter.unusedSimpArgs false

theorem Try_info3 : (Try.prog.info? 3).map (fun i => (i.zero, i.size, i.bytes)) = some (some (.int .i64 0), 1, 8) := by kernel_rfl
theorem Try_info57 : (Try.prog.info? 28).map (fun i => (i.zero, i.size, i.bytes)) = some (some (.agg #[.int .i64 0, .int .i64 0, .int .i64 0]), 3, 24) := by kernel_rfl
theorem st28 : ST Try.prog 77 3 1 8 := by
  obtain ⟨i, hi, h1, h2, h3⟩ := info_parts Try_info3
  exact ⟨i, _, Try.underlying77, hi, h1, h2, h3, rfl, by decide⟩
theorem st47 : ST Try.prog 24 28 3 24 := by
  obtain ⟨i, hi, h1, h2, h3⟩ := info_parts Try_info57
  exact ⟨i, _, Try.underlying24, hi, h1, h2, h3, rfl, by decide⟩

def ints (l : List Int) : List Value := l.map (Value.int .i64)
theorem ints_len (l : List Int) : (ints l).length = l.length := by simp [ints]
theorem ints_one (l : List Int) : ∀ u ∈ ints l, u.oneCell' = true := by
  intro u hu
  obtain ⟨x, _, rfl⟩ := List.mem_map.1 hu
  rfl

/-- A slice of the call's own that holds the numbers l. -/
def Owned (w : World) (l : List Int) (e : Ending) (w' : World) : Prop :=
  ∃ A c, e = .returned (.slice A l.length c) ∧ E.Ext w w' ∧ w'.ownsRow w.heap.size 3 1 (.slice A l.length c) l.length (ints l)

theorem own_of_made {W : World} {e size : Nat} {cap : Nat} (h : cap = 0 := by rfl) : (W.alloc (.cells #[] e)).ownsRow W.heap.size e size (.slice (some ⟨W.heap.size, 0, none⟩) 0 0) 0 [] :=
  World.ownsRow_made W #[] 0 (Nat.le_refl _) (by unfold maxLen; omega) (by simp)
/-- An entry. -/
structure Entry where
  stamp : Int
  sensor : Int
  seq : Int
  input : Bool
  data : List Int
  deriving DecidableEq
def Entry.val (e : Entry) (A : Option Addr) (c : Nat) : Value := .agg #[.int .i64 e.stamp, .int .i64 e.sensor, .int .i64 e.seq, .bool e.input, .slice A e.data.length c]
def Entry.key (e : Entry) : Key := ⟨e.stamp, e.sensor, e.seq⟩
/-- An entry as a result, with a list of its own. -/
def OwnedE (w : World) (x : Entry) (e : Ending) (w' : World) : Prop :=
  ∃ A c, e = .returned (x.val A c) ∧ E.Ext w w' ∧ w'.ownsRow w.heap.size 3 1 (.slice A x.data.length c) x.data.length (ints x.data)

end Go.Proofs.Ytedpkficechjnaa.KB
