/-
  Words for the rows: arguments are opened, and read behind the call as before.
-/
import Derived.Test.YtibmpjhffeinoaaGreatProg
import Derived.Test.YtibmpjhffeinoaaGreatChecked
import Derived.Test.YtibmpjhffeinoaaGreatRows
import Derived.Below
import Derived.ProofKit
namespace Go.Proofs.YtibmpjhffeinoaaGreat
open Go.ChangeShapes Go.WideShapes Go.ChangeAt Go.RowKit

theorem row_own : ownKnob Tryz.prog.godebug = none := by kernel_rfl
theorem row_laid : laidOutB Tryz.prog = true := by kernel_rfl
theorem u8_bd {x : Int} (h : (Lit.int .u8 x).wf = true) : 0 ≤ x ∧ x ≤ 255 := by
  simp [Lit.wf] at h
  have h1 : IntKind.u8.min = 0 := by decide
  have h2 : IntKind.u8.max = 255 := by decide
  omega
section
variable {H : Type} {enc : TypeId × Value → H}
/-- An argument, behind a call that has changed nothing that was there. -/
theorem row_stays {t : TypeId} (hr : Tryz.prog.readableRec t = true) (hrow : t < Tryz.prog.types.size) {W W' : World} {v : Value} {d : DataW H} {p : List MemPlace} (h : DataW.Trod enc Tryz.prog W 0 (fun _ => true) true t v d p) (hlt : ∀ x ∈ p, x.block < W.heap.size)
    (hb : Below W.heap.size W W') : DataW.Trod enc Tryz.prog W' 0 (fun b => decide (b < W.heap.size)) true t v d p := Below.trod row_laid hr hrow h hb hlt
end
end Go.Proofs.YtibmpjhffeinoaaGreat
