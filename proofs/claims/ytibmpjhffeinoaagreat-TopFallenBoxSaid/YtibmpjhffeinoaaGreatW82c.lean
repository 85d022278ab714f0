/-
  A closed function, in segments: a part of them. Printed by gen_sw.py.
-/
import Derived.Test.YtibmpjhffeinoaaGreatW82s
namespace Go.Proofs.YtibmpjhffeinoaaGreat.Kx
open Go Go.RowKit

noncomputable section
theorem w82_s7 : runL (exeY [] mes82) 100000 (takeL 1 (dropSeq 13 (codeOf Tryz.f82))) w82_f7 w82_h7 (renS w82_r8 w82_i8 w82_f8 w82_h8) = true := by decide +kernel
theorem w82_s8 : runL (exeY [] mes82) 100000 (takeL 2 (dropSeq 14 (codeOf Tryz.f82))) w82_f8 w82_h8 (renS w82_r9 w82_i9 w82_f9 w82_h9) = true := by decide +kernel
theorem w82_s9 : runL (exeY [] mes82) 100000 (takeL 2 (dropSeq 16 (codeOf Tryz.f82))) w82_f9 w82_h9 (renS w82_r10 w82_i10 w82_f10 w82_h10) = true := by decide +kernel
theorem w82_s10 : runL (exeY [] mes82) 100000 (takeL 2 (dropSeq 18 (codeOf Tryz.f82))) w82_f10 w82_h10 (renS w82_r11 w82_i11 w82_f11 w82_h11) = true := by decide +kernel
end
end Go.Proofs.YtibmpjhffeinoaaGreat.Kx
