/-
  ledge.CheckRow and ledge.Full of two coppers: the runs.
-/
import Derived.Test.YtibmpjhffeinoaaGreatR
namespace Go.Proofs.YtibmpjhffeinoaaGreat.Kx
open Go Go.RowKit

namespace E6
noncomputable section
def m0 : List ME := [cr 6 0 0 0, cr 6 0 1 0, cr 6 0 2 0, cr 6 0 3 0, cr 6 0 4 0, cr 6 0 5 0]
def n0 : List MN := [fu 6 0 0 2 0 [.int .i64 0, .int .i64 1], fu 6 0 1 2 0 [.int .i64 0, .int .i64 1], fu 6 0 2 2 0 [.int .i64 0, .int .i64 2], fu 6 0 3 2 0 [.int .i64 0, .int .i64 3], fu 6 0 4 2 0 [.int .i64 0, .int .i64 4], fu 6 0 5 2 0 [.int .i64 0, .int .i64 5]]
theorem tm0 : meB m0 = true := by decide +kernel
theorem tn0 : mnB n0 = true := by decide +kernel
def m1 : List ME := [cr 6 1 0 0, cr 6 1 1 0, cr 6 1 2 0, cr 6 1 3 0, cr 6 1 4 0, cr 6 1 5 0]
def n1 : List MN := [fu 6 1 0 2 0 [.int .i64 0, .int .i64 1], fu 6 1 1 2 0 [.int .i64 1, .int .i64 2], fu 6 1 2 2 0 [.int .i64 1, .int .i64 2], fu 6 1 3 2 0 [.int .i64 1, .int .i64 3], fu 6 1 4 2 0 [.int .i64 1, .int .i64 4], fu 6 1 5 2 0 [.int .i64 1, .int .i64 5]]
theorem tm1 : meB m1 = true := by decide +kernel
theorem tn1 : mnB n1 = true := by decide +kernel
def m2 : List ME := [cr 6 2 0 0, cr 6 2 1 0, cr 6 2 2 0, cr 6 2 3 0, cr 6 2 4 0, cr 6 2 5 0]
def n2 : List MN := [fu 6 2 0 2 0 [.int .i64 0, .int .i64 2], fu 6 2 1 2 0 [.int .i64 1, .int .i64 2], fu 6 2 2 2 0 [.int .i64 2, .int .i64 3], fu 6 2 3 2 0 [.int .i64 2, .int .i64 3], fu 6 2 4 2 0 [.int .i64 2, .int .i64 4], fu 6 2 5 2 0 [.int .i64 2, .int .i64 5]]
theorem tm2 : meB m2 = true := by decide +kernel
theorem tn2 : mnB n2 = true := by decide +kernel
def m3 : List ME := [cr 6 3 0 0, cr 6 3 1 0, cr 6 3 2 0, cr 6 3 3 0, cr 6 3 4 0, cr 6 3 5 0]
def n3 : List MN := [fu 6 3 0 2 0 [.int .i64 0, .int .i64 3], fu 6 3 1 2 0 [.int .i64 1, .int .i64 3], fu 6 3 2 2 0 [.int .i64 2, .int .i64 3], fu 6 3 3 2 0 [.int .i64 3, .int .i64 4], fu 6 3 4 2 0 [.int .i64 3, .int .i64 4], fu 6 3 5 2 0 [.int .i64 3, .int .i64 5]]
theorem tm3 : meB m3 = true := by decide +kernel
theorem tn3 : mnB n3 = true := by decide +kernel
def m4 : List ME := [cr 6 4 0 0, cr 6 4 1 0, cr 6 4 2 0, cr 6 4 3 0, cr 6 4 4 0, cr 6 4 5 0]
def n4 : List MN := [fu 6 4 0 2 0 [.int .i64 0, .int .i64 4], fu 6 4 1 2 0 [.int .i64 1, .int .i64 4], fu 6 4 2 2 0 [.int .i64 2, .int .i64 4], fu 6 4 3 2 0 [.int .i64 3, .int .i64 4], fu 6 4 4 2 0 [.int .i64 4, .int .i64 5], fu 6 4 5 2 0 [.int .i64 4, .int .i64 5]]
theorem tm4 : meB m4 = true := by decide +kernel
theorem tn4 : mnB n4 = true := by decide +kernel
def m5 : List ME := [cr 6 5 0 0, cr 6 5 1 0, cr 6 5 2 0, cr 6 5 3 0, cr 6 5 4 0, cr 6 5 5 20]
def n5 : List MN := [fu 6 5 0 2 0 [.int .i64 0, .int .i64 5], fu 6 5 1 2 0 [.int .i64 1, .int .i64 5], fu 6 5 2 2 0 [.int .i64 2, .int .i64 5], fu 6 5 3 2 0 [.int .i64 3, .int .i64 5], fu 6 5 4 2 0 [.int .i64 4, .int .i64 5], fu 6 5 5 1 1 [.int .i64 5]]
theorem tm5 : meB m5 = true := by decide +kernel
theorem tn5 : mnB n5 = true := by decide +kernel
def ms : List ME := m0 ++ (m1 ++ (m2 ++ (m3 ++ (m4 ++ (m5)))))
def ns : List MN := n0 ++ (n1 ++ (n2 ++ (n3 ++ (n4 ++ (n5)))))
theorem hms [Val] [Bet] : ∀ e ∈ ms, MemoOK Tryz.prog e := fun e he => (List.mem_append.1 he).elim (fun he => meB_ok tm0 e he) (fun he => (List.mem_append.1 he).elim (fun he => meB_ok tm1 e he) (fun he => (List.mem_append.1 he).elim (fun he => meB_ok tm2 e he) (fun he => (List.mem_append.1 he).elim (fun he => meB_ok tm3 e he) (fun he => (List.mem_append.1 he).elim (fun he => meB_ok tm4 e he) (fun he => meB_ok tm5 e he)))))
theorem hns [Val] [Bet] : ∀ e ∈ ns, MemoN Tryz.prog e := fun e he => (List.mem_append.1 he).elim (fun he => mnB_ok tn0 e he) (fun he => (List.mem_append.1 he).elim (fun he => mnB_ok tn1 e he) (fun he => (List.mem_append.1 he).elim (fun he => mnB_ok tn2 e he) (fun he => (List.mem_append.1 he).elim (fun he => mnB_ok tn3 e he) (fun he => (List.mem_append.1 he).elim (fun he => mnB_ok tn4 e he) (fun he => mnB_ok tn5 e he)))))
end
end E6
end Go.Proofs.YtibmpjhffeinoaaGreat.Kx
