/-
  ledge.CheckRow and ledge.Full of two coppers: the runs.
-/
import Derived.Test.YtibmpjhffeinoaaGreatR
namespace Go.Proofs.YtibmpjhffeinoaaGreat.Kx
open Go Go.RowKit

namespace E2
noncomputable section
def m0 : List ME := [cr 2 0 0 0, cr 2 0 1 0]
def n0 : List MN := [fu 2 0 0 2 0 [.int .i64 0, .int .i64 1], fu 2 0 1 2 0 [.int .i64 0, .int .i64 1]]
theorem tm0 : meB m0 = true := by decide +kernel
theorem tn0 : mnB n0 = true := by decide +kernel
def m1 : List ME := [cr 2 1 0 0, cr 2 1 1 20]
def n1 : List MN := [fu 2 1 0 2 0 [.int .i64 0, .int .i64 1], fu 2 1 1 1 1 [.int .i64 1]]
theorem tm1 : meB m1 = true := by decide +kernel
theorem tn1 : mnB n1 = true := by decide +kernel
def ms : List ME := m0 ++ (m1)
def ns : List MN := n0 ++ (n1)
theorem hms [Val] [Bet] : ∀ e ∈ ms, MemoOK Tryz.prog e := fun e he => (List.mem_append.1 he).elim (fun he => meB_ok tm0 e he) (fun he => meB_ok tm1 e he)
theorem hns [Val] [Bet] : ∀ e ∈ ns, MemoN Tryz.prog e := fun e he => (List.mem_append.1 he).elim (fun he => mnB_ok tn0 e he) (fun he => mnB_ok tn1 e he)
end
end E2
namespace E3
noncomputable section
def m0 : List ME := [cr 3 0 0 0, cr 3 0 1 0, cr 3 0 2 0]
def n0 : List MN := [fu 3 0 0 2 0 [.int .i64 0, .int .i64 1], fu 3 0 1 2 0 [.int .i64 0, .int .i64 1], fu 3 0 2 2 0 [.int .i64 0, .int .i64 2]]
theorem tm0 : meB m0 = true := by decide +kernel
theorem tn0 : mnB n0 = true := by decide +kernel
def m1 : List ME := [cr 3 1 0 0, cr 3 1 1 0, cr 3 1 2 0]
def n1 : List MN := [fu 3 1 0 2 0 [.int .i64 0, .int .i64 1], fu 3 1 1 2 0 [.int .i64 1, .int .i64 2], fu 3 1 2 2 0 [.int .i64 1, .int .i64 2]]
theorem tm1 : meB m1 = true := by decide +kernel
theorem tn1 : mnB n1 = true := by decide +kernel
def m2 : List ME := [cr 3 2 0 0, cr 3 2 1 0, cr 3 2 2 20]
def n2 : List MN := [fu 3 2 0 2 0 [.int .i64 0, .int .i64 2], fu 3 2 1 2 0 [.int .i64 1, .int .i64 2], fu 3 2 2 1 1 [.int .i64 2]]
theorem tm2 : meB m2 = true := by decide +kernel
theorem tn2 : mnB n2 = true := by decide +kernel
def ms : List ME := m0 ++ (m1 ++ (m2))
def ns : List MN := n0 ++ (n1 ++ (n2))
theorem hms [Val] [Bet] : ∀ e ∈ ms, MemoOK Tryz.prog e := fun e he => (List.mem_append.1 he).elim (fun he => meB_ok tm0 e he) (fun he => (List.mem_append.1 he).elim (fun he => meB_ok tm1 e he) (fun he => meB_ok tm2 e he))
theorem hns [Val] [Bet] : ∀ e ∈ ns, MemoN Tryz.prog e := fun e he => (List.mem_append.1 he).elim (fun he => mnB_ok tn0 e he) (fun he => (List.mem_append.1 he).elim (fun he => mnB_ok tn1 e he) (fun he => mnB_ok tn2 e he))
end
end E3
namespace E4
noncomputable section
def m0 : List ME := [cr 4 0 0 0, cr 4 0 1 0, cr 4 0 2 0, cr 4 0 3 0]
def n0 : List MN := [fu 4 0 0 2 0 [.int .i64 0, .int .i64 1], fu 4 0 1 2 0 [.int .i64 0, .int .i64 1], fu 4 0 2 2 0 [.int .i64 0, .int .i64 2], fu 4 0 3 2 0 [.int .i64 0, .int .i64 3]]
theorem tm0 : meB m0 = true := by decide +kernel
theorem tn0 : mnB n0 = true := by decide +kernel
def m1 : List ME := [cr 4 1 0 0, cr 4 1 1 0, cr 4 1 2 0, cr 4 1 3 0]
def n1 : List MN := [fu 4 1 0 2 0 [.int .i64 0, .int .i64 1], fu 4 1 1 2 0 [.int .i64 1, .int .i64 2], fu 4 1 2 2 0 [.int .i64 1, .int .i64 2], fu 4 1 3 2 0 [.int .i64 1, .int .i64 3]]
theorem tm1 : meB m1 = true := by decide +kernel
theorem tn1 : mnB n1 = true := by decide +kernel
def m2 : List ME := [cr 4 2 0 0, cr 4 2 1 0, cr 4 2 2 0, cr 4 2 3 0]
def n2 : List MN := [fu 4 2 0 2 0 [.int .i64 0, .int .i64 2], fu 4 2 1 2 0 [.int .i64 1, .int .i64 2], fu 4 2 2 2 0 [.int .i64 2, .int .i64 3], fu 4 2 3 2 0 [.int .i64 2, .int .i64 3]]
theorem tm2 : meB m2 = true := by decide +kernel
theorem tn2 : mnB n2 = true := by decide +kernel
def m3 : List ME := [cr 4 3 0 0, cr 4 3 1 0, cr 4 3 2 0, cr 4 3 3 20]
def n3 : List MN := [fu 4 3 0 2 0 [.int .i64 0, .int .i64 3], fu 4 3 1 2 0 [.int .i64 1, .int .i64 3], fu 4 3 2 2 0 [.int .i64 2, .int .i64 3], fu 4 3 3 1 1 [.int .i64 3]]
theorem tm3 : meB m3 = true := by decide +kernel
theorem tn3 : mnB n3 = true := by decide +kernel
def ms : List ME := m0 ++ (m1 ++ (m2 ++ (m3)))
def ns : List MN := n0 ++ (n1 ++ (n2 ++ (n3)))
theorem hms [Val] [Bet] : ∀ e ∈ ms, MemoOK Tryz.prog e := fun e he => (List.mem_append.1 he).elim (fun he => meB_ok tm0 e he) (fun he => (List.mem_append.1 he).elim (fun he => meB_ok tm1 e he) (fun he => (List.mem_append.1 he).elim (fun he => meB_ok tm2 e he) (fun he => meB_ok tm3 e he)))
theorem hns [Val] [Bet] : ∀ e ∈ ns, MemoN Tryz.prog e := fun e he => (List.mem_append.1 he).elim (fun he => mnB_ok tn0 e he) (fun he => (List.mem_append.1 he).elim (fun he => mnB_ok tn1 e he) (fun he => (List.mem_append.1 he).elim (fun he => mnB_ok tn2 e he) (fun he => mnB_ok tn3 e he)))
end
end E4
namespace E5
noncomputable section
def m0 : List ME := [cr 5 0 0 0, cr 5 0 1 0, cr 5 0 2 0, cr 5 0 3 0, cr 5 0 4 0]
def n0 : List MN := [fu 5 0 0 2 0 [.int .i64 0, .int .i64 1], fu 5 0 1 2 0 [.int .i64 0, .int .i64 1], fu 5 0 2 2 0 [.int .i64 0, .int .i64 2], fu 5 0 3 2 0 [.int .i64 0, .int .i64 3], fu 5 0 4 2 0 [.int .i64 0, .int .i64 4]]
theorem tm0 : meB m0 = true := by decide +kernel
theorem tn0 : mnB n0 = true := by decide +kernel
def m1 : List ME := [cr 5 1 0 0, cr 5 1 1 0, cr 5 1 2 0, cr 5 1 3 0, cr 5 1 4 0]
def n1 : List MN := [fu 5 1 0 2 0 [.int .i64 0, .int .i64 1], fu 5 1 1 2 0 [.int .i64 1, .int .i64 2], fu 5 1 2 2 0 [.int .i64 1, .int .i64 2], fu 5 1 3 2 0 [.int .i64 1, .int .i64 3], fu 5 1 4 2 0 [.int .i64 1, .int .i64 4]]
theorem tm1 : meB m1 = true := by decide +kernel
theorem tn1 : mnB n1 = true := by decide +kernel
def m2 : List ME := [cr 5 2 0 0, cr 5 2 1 0, cr 5 2 2 0, cr 5 2 3 0, cr 5 2 4 0]
def n2 : List MN := [fu 5 2 0 2 0 [.int .i64 0, .int .i64 2], fu 5 2 1 2 0 [.int .i64 1, .int .i64 2], fu 5 2 2 2 0 [.int .i64 2, .int .i64 3], fu 5 2 3 2 0 [.int .i64 2, .int .i64 3], fu 5 2 4 2 0 [.int .i64 2, .int .i64 4]]
theorem tm2 : meB m2 = true := by decide +kernel
theorem tn2 : mnB n2 = true := by decide +kernel
def m3 : List ME := [cr 5 3 0 0, cr 5 3 1 0, cr 5 3 2 0, cr 5 3 3 0, cr 5 3 4 0]
def n3 : List MN := [fu 5 3 0 2 0 [.int .i64 0, .int .i64 3], fu 5 3 1 2 0 [.int .i64 1, .int .i64 3], fu 5 3 2 2 0 [.int .i64 2, .int .i64 3], fu 5 3 3 2 0 [.int .i64 3, .int .i64 4], fu 5 3 4 2 0 [.int .i64 3, .int .i64 4]]
theorem tm3 : meB m3 = true := by decide +kernel
theorem tn3 : mnB n3 = true := by decide +kernel
def m4 : List ME := [cr 5 4 0 0, cr 5 4 1 0, cr 5 4 2 0, cr 5 4 3 0, cr 5 4 4 20]
def n4 : List MN := [fu 5 4 0 2 0 [.int .i64 0, .int .i64 4], fu 5 4 1 2 0 [.int .i64 1, .int .i64 4], fu 5 4 2 2 0 [.int .i64 2, .int .i64 4], fu 5 4 3 2 0 [.int .i64 3, .int .i64 4], fu 5 4 4 1 1 [.int .i64 4]]
theorem tm4 : meB m4 = true := by decide +kernel
theorem tn4 : mnB n4 = true := by decide +kernel
def ms : List ME := m0 ++ (m1 ++ (m2 ++ (m3 ++ (m4))))
def ns : List MN := n0 ++ (n1 ++ (n2 ++ (n3 ++ (n4))))
theorem hms [Val] [Bet] : ∀ e ∈ ms, MemoOK Tryz.prog e := fun e he => (List.mem_append.1 he).elim (fun he => meB_ok tm0 e he) (fun he => (List.mem_append.1 he).elim (fun he => meB_ok tm1 e he) (fun he => (List.mem_append.1 he).elim (fun he => meB_ok tm2 e he) (fun he => (List.mem_append.1 he).elim (fun he => meB_ok tm3 e he) (fun he => meB_ok tm4 e he))))
theorem hns [Val] [Bet] : ∀ e ∈ ns, MemoN Tryz.prog e := fun e he => (List.mem_append.1 he).elim (fun he => mnB_ok tn0 e he) (fun he => (List.mem_append.1 he).elim (fun he => mnB_ok tn1 e he) (fun he => (List.mem_append.1 he).elim (fun he => mnB_ok tn2 e he) (fun he => (List.mem_append.1 he).elim (fun he => mnB_ok tn3 e he) (fun he => mnB_ok tn4 e he))))
end
end E5
end Go.Proofs.YtibmpjhffeinoaaGreat.Kx
