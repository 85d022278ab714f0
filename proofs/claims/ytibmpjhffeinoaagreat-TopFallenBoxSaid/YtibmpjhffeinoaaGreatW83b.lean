/-
  A closed function, in segments: a part of them. Printed by gen_sw.py.
-/
import Derived.Test.YtibmpjhffeinoaaGreatW83s
namespace Go.Proofs.YtibmpjhffeinoaaGreat.Kx
open Go Go.RowKit

noncomputable section
theorem w83_s4 : runL (exeY [] mes83) 100000 (takeL 2 (dropSeq 8 (codeOf Tryz.f83))) w83_f4 w83_h4 (renS w83_r5 w83_i5 w83_f5 w83_h5) = true := by decide +kernel
theorem w83_s5 : runL (exeY [] mes83) 100000 (takeL 2 (dropSeq 10 (codeOf Tryz.f83))) w83_f5 w83_h5 (renS w83_r6 w83_i6 w83_f6 w83_h6) = true := by decide +kernel
end
end Go.Proofs.YtibmpjhffeinoaaGreat.Kx
