/-
  What calls come to: a list and numbers, in memory that has grown.
-/
import Derived.Test.YtkeiajncmhkdmaaBase
namespace Go.Proofs.Ytkeiajncmhkdmaa
open Go.RowKit

def RetLI (w : World) (L : List Int) (s r : Int) (e : Ending) (w' : World) : Prop := ∃ (A : Option Addr) (n c : Nat), e = .returned (.tuple #[.slice A n c, .int .i64 s, .int .i64 r]) ∧ Oi w' w.heap.size A n c L ∧ Below w.heap.size w w'
def RetLE (w : World) (L : List Int) (r : Int) (e : Ending) (w' : World) : Prop := ∃ (A : Option Addr) (n c : Nat), e = .returned (.tuple #[.slice A n c, .int .i64 r]) ∧ Oi w' w.heap.size A n c L ∧ Below w.heap.size w w'
def RetII (w : World) (m r : Int) (e : Ending) (w' : World) : Prop := e = .returned (.tuple #[.int .i64 m, .int .i64 r]) ∧ Below w.heap.size w w'
def RetI (w : World) (r : Int) (e : Ending) (w' : World) : Prop := e = .returned (.int .i64 r) ∧ Below w.heap.size w w'
def RetB (w : World) (r : Bool) (e : Ending) (w' : World) : Prop := e = .returned (.bool r) ∧ Below w.heap.size w w'
def RetL (w : World) (L : List Int) (e : Ending) (w' : World) : Prop := ∃ (A : Option Addr) (n c : Nat), e = .returned (.slice A n c) ∧ Oi w' w.heap.size A n c L ∧ Below w.heap.size w w'
end Go.Proofs.Ytkeiajncmhkdmaa
