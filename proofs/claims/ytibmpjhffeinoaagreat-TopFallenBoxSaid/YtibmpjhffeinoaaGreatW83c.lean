/-
  A closed function, in segments: a part of them. Printed by gen_sw.py.
-/
import Derived.Test.YtibmpjhffeinoaaGreatW83s
namespace Go.Proofs.YtibmpjhffeinoaaGreat.Kx
open Go Go.RowKit

noncomputable section
theorem w83_s6 : runL (exeY [] mes83) 100000 (takeL 2 (dropSeq 12 (codeOf Tryz.f83))) w83_f6 w83_h6 (renS w83_r7 w83_i7 w83_f7 w83_h7) = true := by decide +kernel
end
end Go.Proofs.YtibmpjhffeinoaaGreat.Kx
