/-
  works05: the examples of the layers up to 5.
-/
import Derived.Test.YtibmpjhffeinoaaGreatY4
import Derived.Test.YtibmpjhffeinoaaGreatW82
namespace Go.Proofs.YtibmpjhffeinoaaGreat.Kx
open Go Go.RowKit

theorem yes36 : YesFn Tryz.prog 36 := yes_closed (l := [21, 82]) (by
  intro f hf
  simp only [List.mem_cons, List.not_mem_nil, or_false] at hf
  rcases hf with rfl | rfl
  · exact yes21
  · exact yes82) Tryz.func36 (by rfl : Tryz.f36.body = some (codeOf Tryz.f36)) (by kernel_rfl) (by decide +kernel)
end Go.Proofs.YtibmpjhffeinoaaGreat.Kx
