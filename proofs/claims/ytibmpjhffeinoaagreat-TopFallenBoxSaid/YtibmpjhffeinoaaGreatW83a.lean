/-
  A closed function, in segments: a part of them. Printed by gen_sw.py.
-/
import Derived.Test.YtibmpjhffeinoaaGreatW83s
namespace Go.Proofs.YtibmpjhffeinoaaGreat.Kx
open Go Go.RowKit

noncomputable section
theorem w83_s0 : runL (exeY [] mes83) 100000 (takeL 2 (dropSeq 0 (codeOf Tryz.f83))) w83_f0 w83_h0 (renS w83_r1 w83_i1 w83_f1 w83_h1) = true := by decide +kernel
theorem w83_s1 : runL (exeY [] mes83) 100000 (takeL 2 (dropSeq 2 (codeOf Tryz.f83))) w83_f1 w83_h1 (renS w83_r2 w83_i2 w83_f2 w83_h2) = true := by decide +kernel
theorem w83_s2 : runL (exeY [] mes83) 100000 (takeL 2 (dropSeq 4 (codeOf Tryz.f83))) w83_f2 w83_h2 (renS w83_r3 w83_i3 w83_f3 w83_h3) = true := by decide +kernel
theorem w83_s3 : runL (exeY [] mes83) 100000 (takeL 2 (dropSeq 6 (codeOf Tryz.f83))) w83_f3 w83_h3 (renS w83_r4 w83_i4 w83_f4 w83_h4) = true := by decide +kernel
end
end Go.Proofs.YtibmpjhffeinoaaGreat.Kx
