/-
  A closed function, in segments: a part of them. Printed by gen_sw.py.
-/
import Derived.Test.YtibmpjhffeinoaaGreatW82s
namespace Go.Proofs.YtibmpjhffeinoaaGreat.Kx
open Go Go.RowKit

noncomputable section
theorem w82_s0 : runL (exeY [] mes82) 100000 (takeL 2 (dropSeq 0 (codeOf Tryz.f82))) w82_f0 w82_h0 (renS w82_r1 w82_i1 w82_f1 w82_h1) = true := by decide +kernel
theorem w82_s1 : runL (exeY [] mes82) 100000 (takeL 2 (dropSeq 2 (codeOf Tryz.f82))) w82_f1 w82_h1 (renS w82_r2 w82_i2 w82_f2 w82_h2) = true := by decide +kernel
theorem w82_s2 : runL (exeY [] mes82) 100000 (takeL 2 (dropSeq 4 (codeOf Tryz.f82))) w82_f2 w82_h2 (renS w82_r3 w82_i3 w82_f3 w82_h3) = true := by decide +kernel
theorem w82_s3 : runL (exeY [] mes82) 100000 (takeL 2 (dropSeq 6 (codeOf Tryz.f82))) w82_f3 w82_h3 (renS w82_r4 w82_i4 w82_f4 w82_h4) = true := by decide +kernel
theorem w82_s4 : runL (exeY [] mes82) 100000 (takeL 2 (dropSeq 8 (codeOf Tryz.f82))) w82_f4 w82_h4 (renS w82_r5 w82_i5 w82_f5 w82_h5) = true := by decide +kernel
theorem w82_s5 : runL (exeY [] mes82) 100000 (takeL 2 (dropSeq 10 (codeOf Tryz.f82))) w82_f5 w82_h5 (renS w82_r6 w82_i6 w82_f6 w82_h6) = true := by decide +kernel
end
end Go.Proofs.YtibmpjhffeinoaaGreat.Kx
