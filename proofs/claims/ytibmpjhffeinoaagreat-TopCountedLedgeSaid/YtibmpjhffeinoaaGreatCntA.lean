/-
  TopCountedLedge: the runs behind the ledge's answers, for each kind of them; the runs ahead of them.
-/
import Derived.Test.YtibmpjhffeinoaaGreatM8a
import Derived.Test.YtibmpjhffeinoaaGreatM8b
import Derived.Test.YtibmpjhffeinoaaGreatM8c
import Derived.Test.YtibmpjhffeinoaaGreatM8d
namespace Go.Proofs.YtibmpjhffeinoaaGreat.Kx
open Go Go.RowKit

noncomputable section
def c8 : Code := codeOf Tryz.f8
/-- At the end the result is true. -/
def endF : AF := ⟨203, (.n (.n .e (.n .e (.n (.n (.n (.n (.n (.l (.bool true)) .e) .e) .e) .e) .e))) .e)⟩
def endH : AH := ⟨100000, .e⟩
def cf0 : AF := ⟨203, (.n (.n (.n (.n .e (.n (.n (.n (.n (.l (.exS 2 0 [(1, 0, 0), (1, 0, 0)])) .e) .e) .e) .e)) .e) (.n (.n (.n (.n (.n (.n (.l (.lin .u8 0 [(0, 0, 0), (0, 0, 0), (1, 0, 19), (20, 0, 12)])) .e) .e) .e) .e) (.n (.n (.n (.n (.l (.lin .i64 0 [(0, 0, 0), (1, 0, 0)])) .e) .e) .e) .e)) .e)) (.n (.n (.n .e (.n (.n (.n (.n (.l (.exS 3 0 [(1, 0, 0)])) .e) .e) .e) .e)) .e) (.n (.n .e (.n (.n (.n (.n (.l (.int .i64 0)) .e) .e) .e) .e)) .e)))⟩
theorem cr0 : runL (exeY [37] mes8_0) 100000 (takeL 14 (dropSeq 5 c8)) cf0 noH (leS endF endH) = true := by decide +kernel
def cf1 : AF := ⟨203, (.n (.n (.n (.n .e (.n (.n (.n (.n (.l (.exS 2 0 [(1, 0, 0), (1, 1, 12)])) .e) .e) .e) .e)) .e) (.n (.n (.n (.n (.n (.n (.l (.lin .u8 0 [(0, 0, 0), (0, 1, 12), (1, 0, 19), (20, 0, 12)])) .e) .e) .e) .e) (.n (.n (.n (.n (.l (.lin .i64 0 [(0, 0, 0), (1, 1, 12)])) .e) .e) .e) .e)) .e)) (.n (.n (.n .e (.n (.n (.n (.n (.l (.exS 3 0 [(1, 0, 0)])) .e) .e) .e) .e)) .e) (.n (.n .e (.n (.n (.n (.n (.l (.int .i64 0)) .e) .e) .e) .e)) .e)))⟩
theorem cr1 : runL (exeY [37] mes8_1) 100000 (takeL 14 (dropSeq 5 c8)) cf1 noH (leS endF endH) = true := by decide +kernel
def cf2 : AF := ⟨203, (.n (.n (.n (.n .e (.n (.n (.n (.n (.l (.exS 2 0 [(1, 1, 8), (1, 0, 0)])) .e) .e) .e) .e)) .e) (.n (.n (.n (.n (.n (.n (.l (.lin .u8 0 [(0, 1, 8), (0, 0, 0), (1, 0, 19), (20, 0, 12)])) .e) .e) .e) .e) (.n (.n (.n (.n (.l (.lin .i64 0 [(0, 1, 8), (1, 0, 0)])) .e) .e) .e) .e)) .e)) (.n (.n (.n .e (.n (.n (.n (.n (.l (.exS 3 0 [(1, 1, 8)])) .e) .e) .e) .e)) .e) (.n (.n .e (.n (.n (.n (.n (.l (.int .i64 0)) .e) .e) .e) .e)) .e)))⟩
theorem cr2 : runL (exeY [37] mes8_2) 100000 (takeL 14 (dropSeq 5 c8)) cf2 noH (leS endF endH) = true := by decide +kernel
def cf3 : AF := ⟨203, (.n (.n (.n (.n .e (.n (.n (.n (.n (.l (.exS 2 0 [(1, 1, 8), (1, 1, 12)])) .e) .e) .e) .e)) .e) (.n (.n (.n (.n (.n (.n (.l (.lin .u8 0 [(0, 1, 8), (0, 1, 12), (1, 0, 19), (20, 0, 12)])) .e) .e) .e) .e) (.n (.n (.n (.n (.l (.lin .i64 0 [(0, 1, 8), (1, 1, 12)])) .e) .e) .e) .e)) .e)) (.n (.n (.n .e (.n (.n (.n (.n (.l (.exS 3 0 [(1, 1, 8)])) .e) .e) .e) .e)) .e) (.n (.n .e (.n (.n (.n (.n (.l (.int .i64 0)) .e) .e) .e) .e)) .e)))⟩
theorem cr3 : runL (exeY [37] mes8_3) 100000 (takeL 14 (dropSeq 5 c8)) cf3 noH (leS endF endH) = true := by decide +kernel
theorem cr_c : dropSeq 5 c8 = chain (takeL 14 (dropSeq 5 c8)) (dropSeq 19 c8) := by kernel_rfl
theorem cr_e : dropSeq 19 c8 = .ret := by kernel_rfl
end
end Go.Proofs.YtibmpjhffeinoaaGreat.Kx
