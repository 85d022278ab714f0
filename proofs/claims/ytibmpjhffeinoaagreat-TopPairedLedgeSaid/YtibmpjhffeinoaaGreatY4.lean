/-
  works04: the examples of the layers up to 4.
-/
import Derived.Test.YtibmpjhffeinoaaGreatY3
import Derived.Test.YtibmpjhffeinoaaGreatW65
namespace Go.Proofs.YtibmpjhffeinoaaGreat.Kx
open Go Go.RowKit

theorem yes21 : YesFn Tryz.prog 21 := yes_closed (l := [11, 65]) (by
  intro f hf
  simp only [List.mem_cons, List.not_mem_nil, or_false] at hf
  rcases hf with rfl | rfl
  · exact yes11
  · exact yes65) Tryz.func21 (by rfl : Tryz.f21.body = some (codeOf Tryz.f21)) (by kernel_rfl) (by decide +kernel)
end Go.Proofs.YtibmpjhffeinoaaGreat.Kx
