/-
  works06: the examples of the layers up to 6.
-/
import Derived.Test.YtibmpjhffeinoaaGreatY5
import Derived.Test.YtibmpjhffeinoaaGreatW83
namespace Go.Proofs.YtibmpjhffeinoaaGreat.Kx
open Go Go.RowKit

theorem yes37 : YesFn Tryz.prog 37 := yes_closed (l := [36, 83]) (by
  intro f hf
  simp only [List.mem_cons, List.not_mem_nil, or_false] at hf
  rcases hf with rfl | rfl
  · exact yes36
  · exact yes83) Tryz.func37 (by rfl : Tryz.f37.body = some (codeOf Tryz.f37)) (by kernel_rfl) (by decide +kernel)
end Go.Proofs.YtibmpjhffeinoaaGreat.Kx
