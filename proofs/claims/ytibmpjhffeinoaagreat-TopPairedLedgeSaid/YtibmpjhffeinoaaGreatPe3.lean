/-
  ledge.CheckRow and ledge.Full of two coppers: the runs.
-/
import Derived.Test.YtibmpjhffeinoaaGreatR
namespace Go.Proofs.YtibmpjhffeinoaaGreat.Kx
open Go Go.RowKit

namespace E8
noncomputable section
def m0 : List ME := [cr 8 0 0 0, cr 8 0 1 0, cr 8 0 2 0, cr 8 0 3 0, cr 8 0 4 0, cr 8 0 5 0, cr 8 0 6 0, cr 8 0 7 0]
def n0 : List MN := [fu 8 0 0 2 0 [.int .i64 0, .int .i64 1], fu 8 0 1 2 0 [.int .i64 0, .int .i64 1], fu 8 0 2 2 0 [.int .i64 0, .int .i64 2], fu 8 0 3 2 0 [.int .i64 0, .int .i64 3], fu 8 0 4 2 0 [.int .i64 0, .int .i64 4], fu 8 0 5 2 0 [.int .i64 0, .int .i64 5], fu 8 0 6 2 0 [.int .i64 0, .int .i64 6], fu 8 0 7 2 0 [.int .i64 0, .int .i64 7]]
theorem tm0 : meB m0 = true := by decide +kernel
theorem tn0 : mnB n0 = true := by decide +kernel
def m1 : List ME := [cr 8 1 0 0, cr 8 1 1 0, cr 8 1 2 0, cr 8 1 3 0, cr 8 1 4 0, cr 8 1 5 0, cr 8 1 6 0, cr 8 1 7 0]
def n1 : List MN := [fu 8 1 0 2 0 [.int .i64 0, .int .i64 1], fu 8 1 1 2 0 [.int .i64 1, .int .i64 2], fu 8 1 2 2 0 [.int .i64 1, .int .i64 2], fu 8 1 3 2 0 [.int .i64 1, .int .i64 3], fu 8 1 4 2 0 [.int .i64 1, .int .i64 4], fu 8 1 5 2 0 [.int .i64 1, .int .i64 5], fu 8 1 6 2 0 [.int .i64 1, .int .i64 6], fu 8 1 7 2 0 [.int .i64 1, .int .i64 7]]
theorem tm1 : meB m1 = true := by decide +kernel
theorem tn1 : mnB n1 = true := by decide +kernel
def m2 : List ME := [cr 8 2 0 0, cr 8 2 1 0, cr 8 2 2 0, cr 8 2 3 0, cr 8 2 4 0, cr 8 2 5 0, cr 8 2 6 0, cr 8 2 7 0]
def n2 : List MN := [fu 8 2 0 2 0 [.int .i64 0, .int .i64 2], fu 8 2 1 2 0 [.int .i64 1, .int .i64 2], fu 8 2 2 2 0 [.int .i64 2, .int .i64 3], fu 8 2 3 2 0 [.int .i64 2, .int .i64 3], fu 8 2 4 2 0 [.int .i64 2, .int .i64 4], fu 8 2 5 2 0 [.int .i64 2, .int .i64 5], fu 8 2 6 2 0 [.int .i64 2, .int .i64 6], fu 8 2 7 2 0 [.int .i64 2, .int .i64 7]]
theorem tm2 : meB m2 = true := by decide +kernel
theorem tn2 : mnB n2 = true := by decide +kernel
def m3 : List ME := [cr 8 3 0 0, cr 8 3 1 0, cr 8 3 2 0, cr 8 3 3 0, cr 8 3 4 0, cr 8 3 5 0, cr 8 3 6 0, cr 8 3 7 0]
def n3 : List MN := [fu 8 3 0 2 0 [.int .i64 0, .int .i64 3], fu 8 3 1 2 0 [.int .i64 1, .int .i64 3], fu 8 3 2 2 0 [.int .i64 2, .int .i64 3], fu 8 3 3 2 0 [.int .i64 3, .int .i64 4], fu 8 3 4 2 0 [.int .i64 3, .int .i64 4], fu 8 3 5 2 0 [.int .i64 3, .int .i64 5], fu 8 3 6 2 0 [.int .i64 3, .int .i64 6], fu 8 3 7 2 0 [.int .i64 3, .int .i64 7]]
theorem tm3 : meB m3 = true := by decide +kernel
theorem tn3 : mnB n3 = true := by decide +kernel
def m4 : List ME := [cr 8 4 0 0, cr 8 4 1 0, cr 8 4 2 0, cr 8 4 3 0, cr 8 4 4 0, cr 8 4 5 0, cr 8 4 6 0, cr 8 4 7 0]
def n4 : List MN := [fu 8 4 0 2 0 [.int .i64 0, .int .i64 4], fu 8 4 1 2 0 [.int .i64 1, .int .i64 4], fu 8 4 2 2 0 [.int .i64 2, .int .i64 4], fu 8 4 3 2 0 [.int .i64 3, .int .i64 4], fu 8 4 4 2 0 [.int .i64 4, .int .i64 5], fu 8 4 5 2 0 [.int .i64 4, .int .i64 5], fu 8 4 6 2 0 [.int .i64 4, .int .i64 6], fu 8 4 7 2 0 [.int .i64 4, .int .i64 7]]
theorem tm4 : meB m4 = true := by decide +kernel
theorem tn4 : mnB n4 = true := by decide +kernel
def m5 : List ME := [cr 8 5 0 0, cr 8 5 1 0, cr 8 5 2 0, cr 8 5 3 0, cr 8 5 4 0, cr 8 5 5 0, cr 8 5 6 0, cr 8 5 7 0]
def n5 : List MN := [fu 8 5 0 2 0 [.int .i64 0, .int .i64 5], fu 8 5 1 2 0 [.int .i64 1, .int .i64 5], fu 8 5 2 2 0 [.int .i64 2, .int .i64 5], fu 8 5 3 2 0 [.int .i64 3, .int .i64 5], fu 8 5 4 2 0 [.int .i64 4, .int .i64 5], fu 8 5 5 2 0 [.int .i64 5, .int .i64 6], fu 8 5 6 2 0 [.int .i64 5, .int .i64 6], fu 8 5 7 2 0 [.int .i64 5, .int .i64 7]]
theorem tm5 : meB m5 = true := by decide +kernel
theorem tn5 : mnB n5 = true := by decide +kernel
def m6 : List ME := [cr 8 6 0 0, cr 8 6 1 0, cr 8 6 2 0, cr 8 6 3 0, cr 8 6 4 0, cr 8 6 5 0, cr 8 6 6 0, cr 8 6 7 0]
def n6 : List MN := [fu 8 6 0 2 0 [.int .i64 0, .int .i64 6], fu 8 6 1 2 0 [.int .i64 1, .int .i64 6], fu 8 6 2 2 0 [.int .i64 2, .int .i64 6], fu 8 6 3 2 0 [.int .i64 3, .int .i64 6], fu 8 6 4 2 0 [.int .i64 4, .int .i64 6], fu 8 6 5 2 0 [.int .i64 5, .int .i64 6], fu 8 6 6 2 0 [.int .i64 6, .int .i64 7], fu 8 6 7 2 0 [.int .i64 6, .int .i64 7]]
theorem tm6 : meB m6 = true := by decide +kernel
theorem tn6 : mnB n6 = true := by decide +kernel
def m7 : List ME := [cr 8 7 0 0, cr 8 7 1 0, cr 8 7 2 0, cr 8 7 3 0, cr 8 7 4 0, cr 8 7 5 0, cr 8 7 6 0, cr 8 7 7 20]
def n7 : List MN := [fu 8 7 0 2 0 [.int .i64 0, .int .i64 7], fu 8 7 1 2 0 [.int .i64 1, .int .i64 7], fu 8 7 2 2 0 [.int .i64 2, .int .i64 7], fu 8 7 3 2 0 [.int .i64 3, .int .i64 7], fu 8 7 4 2 0 [.int .i64 4, .int .i64 7], fu 8 7 5 2 0 [.int .i64 5, .int .i64 7], fu 8 7 6 2 0 [.int .i64 6, .int .i64 7], fu 8 7 7 1 1 [.int .i64 7]]
theorem tm7 : meB m7 = true := by decide +kernel
theorem tn7 : mnB n7 = true := by decide +kernel
def ms : List ME := m0 ++ (m1 ++ (m2 ++ (m3 ++ (m4 ++ (m5 ++ (m6 ++ (m7)))))))
def ns : List MN := n0 ++ (n1 ++ (n2 ++ (n3 ++ (n4 ++ (n5 ++ (n6 ++ (n7)))))))
theorem hms [Val] [Bet] : ∀ e ∈ ms, MemoOK Tryz.prog e := fun e he => (List.mem_append.1 he).elim (fun he => meB_ok tm0 e he) (fun he => (List.mem_append.1 he).elim (fun he => meB_ok tm1 e he) (fun he => (List.mem_append.1 he).elim (fun he => meB_ok tm2 e he) (fun he => (List.mem_append.1 he).elim (fun he => meB_ok tm3 e he) (fun he => (List.mem_append.1 he).elim (fun he => meB_ok tm4 e he) (fun he => (List.mem_append.1 he).elim (fun he => meB_ok tm5 e he) (fun he => (List.mem_append.1 he).elim (fun he => meB_ok tm6 e he) (fun he => meB_ok tm7 e he)))))))
theorem hns [Val] [Bet] : ∀ e ∈ ns, MemoN Tryz.prog e := fun e he => (List.mem_append.1 he).elim (fun he => mnB_ok tn0 e he) (fun he => (List.mem_append.1 he).elim (fun he => mnB_ok tn1 e he) (fun he => (List.mem_append.1 he).elim (fun he => mnB_ok tn2 e he) (fun he => (List.mem_append.1 he).elim (fun he => mnB_ok tn3 e he) (fun he => (List.mem_append.1 he).elim (fun he => mnB_ok tn4 e he) (fun he => (List.mem_append.1 he).elim (fun he => mnB_ok tn5 e he) (fun he => (List.mem_append.1 he).elim (fun he => mnB_ok tn6 e he) (fun he => mnB_ok tn7 e he)))))))
end
end E8
end Go.Proofs.YtibmpjhffeinoaaGreat.Kx
