/-
  A closed function, in segments: a part of them. Printed by gen_sw.py.
-/
import Derived.Test.YtibmpjhffeinoaaGreatW82s
namespace Go.Proofs.YtibmpjhffeinoaaGreat.Kx
open Go Go.RowKit

noncomputable section
theorem w82_s6 : runL (exeY [] mes82) 100000 (takeL 1 (dropSeq 12 (codeOf Tryz.f82))) w82_f6 w82_h6 (renS w82_r7 w82_i7 w82_f7 w82_h7) = true := by decide +kernel
end
end Go.Proofs.YtibmpjhffeinoaaGreat.Kx
