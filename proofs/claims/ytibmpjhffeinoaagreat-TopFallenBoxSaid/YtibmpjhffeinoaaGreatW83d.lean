/-
  A closed function, in segments: a part of them. Printed by gen_sw.py.
-/
import Derived.Test.YtibmpjhffeinoaaGreatW83s
namespace Go.Proofs.YtibmpjhffeinoaaGreat.Kx
open Go Go.RowKit

noncomputable section
theorem w83_s7 : runL (exeY [] mes83) 100000 (takeL 2 (dropSeq 14 (codeOf Tryz.f83))) w83_f7 w83_h7 (renS w83_r8 w83_i8 w83_f8 w83_h8) = true := by decide +kernel
theorem w83_s8 : runL (exeY [] mes83) 100000 (takeL 2 (dropSeq 16 (codeOf Tryz.f83))) w83_f8 w83_h8 (renS w83_r9 w83_i9 w83_f9 w83_h9) = true := by decide +kernel
theorem w83_s9 : runL (exeY [] mes83) 100000 (takeL 1 (dropSeq 18 (codeOf Tryz.f83))) w83_f9 w83_h9 (renS w83_r10 w83_i10 w83_f10 w83_h10) = true := by decide +kernel
end
end Go.Proofs.YtibmpjhffeinoaaGreat.Kx
