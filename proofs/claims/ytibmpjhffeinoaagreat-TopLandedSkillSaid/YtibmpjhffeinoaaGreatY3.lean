/-
  works03: the examples of the layers up to 3.
-/
import Derived.Test.YtibmpjhffeinoaaGreatMm
import Derived.Test.YtibmpjhffeinoaaGreatW52
import Derived.Test.YtibmpjhffeinoaaGreatW53
import Derived.Test.YtibmpjhffeinoaaGreatW54
namespace Go.Proofs.YtibmpjhffeinoaaGreat.Kx
open Go Go.RowKit

theorem yes11 : YesFn Tryz.prog 11 := yes_closed (l := [52, 53, 54]) (by
  intro f hf
  simp only [List.mem_cons, List.not_mem_nil, or_false] at hf
  rcases hf with rfl | rfl | rfl
  · exact yes52
  · exact yes53
  · exact yes54) Tryz.func11 (by rfl : Tryz.f11.body = some (codeOf Tryz.f11)) (by kernel_rfl) (by decide +kernel)
end Go.Proofs.YtibmpjhffeinoaaGreat.Kx
