/-
  Contracts of the laws' helpers over []int64: szInt64S, toInt64S, eqInt64S, markInt64S, heldInt64S.
-/
import Derived.Test.YtfheepjfpgiaoaaProg
import Derived.Test.YtfheepjfpgiaoaaWords
import Derived.BigQuiet
import Derived.Deep.QuietTactic
import Derived.KernelRfl
namespace Go.Proofs.Ytfheepjfpgiaoaa
open Go.RowKit

theorem elI : Elem Try.prog 48 2 1 8 (.int .i64 0) := ⟨Try.underlying48, by kernel_rfl, rfl, by decide⟩

def szF (left n : Int) : Int := if left < n then -1 else left - n

def MarkI (w : World) (lo hi : Nat) (A : Option Addr) (n c : Nat) (m : Int) (e : Ending) (w' : World) : Prop :=
  e = .returned (.int .i64 (m + n)) ∧ OwnE w' lo 2 A n c (marks m n) ∧ Tch lo hi w w' ∧ ∀ b, blk A ≠ some b → w'.heap[b]? = w.heap[b]?

def ToI (w : World) (n : Nat) (xs : List Int) (e : Ending) (w' : World) : Prop :=
  ∃ A, e = .returned (.slice A n n) ∧ Own w' w.heap.size 2 1 A n n (ints xs) ∧ Below w.heap.size w w'

/-- A slice in new memory. -/
def NewI (w : World) (xs : List Int) (e : Ending) (w' : World) : Prop :=
  ∃ A c, e = .returned (.slice A xs.length c) ∧ Own w' w.heap.size 2 1 A xs.length c (ints xs) ∧ Below w.heap.size w w'

/-- A slice in new memory and a number. -/
def NewI2 (w : World) (r : List Int × Int) (e : Ending) (w' : World) : Prop :=
  ∃ A c, e = .returned (.tuple #[.slice A r.1.length c, .int .i64 r.2]) ∧ Own w' w.heap.size 2 1 A r.1.length c (ints r.1) ∧ Below w.heap.size w w'


/-- What marking a copy does: the number goes on, the memory is as it was but for the copies' cells. -/
def MarkP (T : List TypeId) (w : World) (lo hi : Nat) (t : Nat) (m : Int) (e : Ending) (w' : World) : Prop := e = .returned (.int .i64 (m + t)) ∧ MkF T lo hi w w'

end Go.Proofs.Ytfheepjfpgiaoaa
