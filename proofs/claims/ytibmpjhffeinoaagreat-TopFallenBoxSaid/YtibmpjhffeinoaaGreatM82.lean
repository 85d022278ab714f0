/-
  Calls whose result is known. Printed by gen_memo.py.
-/
import Derived.Test.YtibmpjhffeinoaaGreatMm
namespace Go.Proofs.YtibmpjhffeinoaaGreat.Kx
open Go Go.RowKit

noncomputable section
def me82_0 : ME := ⟨293, [(.agg [(.int .i64 (.ofNat 0)), (.int .i64 (.ofNat 0)), (.int .i64 (.ofNat 0)), (.int .i64 (.ofNat 4)), (.int .i64 (.ofNat 1))]), (.int .i64 (.ofNat 0)), (.int .i64 (.ofNat 0)), (.int .i64 (.ofNat 0)), (.int .i64 (.ofNat 0))], ⟨0, .e⟩, (.agg [(.int .i64 (.ofNat 4)), (.int .i64 (.ofNat 0)), (.int .i64 (.ofNat 0)), (.int .i64 (.ofNat 0)), (.int .i64 (.ofNat 0))])⟩
theorem mo82_0 [Val] [Bet] : MemoOK Tryz.prog me82_0 := memoB_ok (exe0_sound 100000) (by decide +kernel)
def me82_1 : ME := ⟨293, [(.agg [(.int .i64 (.ofNat 0)), (.int .i64 (.ofNat 0)), (.int .i64 (.ofNat 0)), (.int .i64 (.ofNat 4)), (.int .i64 (.ofNat 1))]), (.int .i64 (.ofNat 0)), (.int .i64 (.ofNat 0)), (.int .i64 (.ofNat 4)), (.int .i64 (.ofNat 1))], ⟨0, .e⟩, (.agg [(.int .i64 (.ofNat 0)), (.int .i64 (.ofNat 0)), (.int .i64 (.ofNat 0)), (.int .i64 (.ofNat 4)), (.int .i64 (.ofNat 1))])⟩
theorem mo82_1 [Val] [Bet] : MemoOK Tryz.prog me82_1 := memoB_ok (exe0_sound 100000) (by decide +kernel)
def me82_2 : ME := ⟨293, [(.agg [(.int .i64 (.ofNat 0)), (.int .i64 (.ofNat 0)), (.int .i64 (.ofNat 0)), (.int .i64 (.ofNat 4)), (.int .i64 (.ofNat 1))]), (.int .i64 (.ofNat 1)), (.int .i64 (.ofNat 1)), (.int .i64 (.ofNat 0)), (.int .i64 (.ofNat 0))], ⟨0, .e⟩, (.agg [(.int .i64 (.ofNat 2)), (.int .i64 (.ofNat 1)), (.int .i64 (.ofNat 1)), (.int .i64 (.ofNat 0)), (.int .i64 (.ofNat 0))])⟩
theorem mo82_2 [Val] [Bet] : MemoOK Tryz.prog me82_2 := memoB_ok (exe0_sound 100000) (by decide +kernel)
def me82_3 : ME := ⟨293, [(.agg [(.int .i64 (.ofNat 0)), (.int .i64 (.ofNat 0)), (.int .i64 (.ofNat 0)), (.int .i64 (.ofNat 4)), (.int .i64 (.ofNat 1))]), (.int .i64 (.ofNat 0)), (.int .i64 (.ofNat 0)), (.int .i64 (.ofNat 2)), (.int .i64 (.ofNat 1))], ⟨0, .e⟩, (.agg [(.int .i64 (.ofNat 2)), (.int .i64 (.ofNat 0)), (.int .i64 (.ofNat 0)), (.int .i64 (.ofNat 2)), (.int .i64 (.ofNat 1))])⟩
theorem mo82_3 [Val] [Bet] : MemoOK Tryz.prog me82_3 := memoB_ok (exe0_sound 100000) (by decide +kernel)
def me82_4 : ME := ⟨293, [(.agg [(.int .i64 (.ofNat 2)), (.int .i64 (.ofNat 1)), (.int .i64 (.ofNat 1)), (.int .i64 (.ofNat 0)), (.int .i64 (.ofNat 0))]), (.int .i64 (.ofNat 0)), (.int .i64 (.ofNat 0)), (.int .i64 (.ofNat 0)), (.int .i64 (.ofNat 0))], ⟨0, .e⟩, (.agg [(.int .i64 (.ofNat 4)), (.int .i64 (.ofNat 0)), (.int .i64 (.ofNat 0)), (.int .i64 (.ofNat 0)), (.int .i64 (.ofNat 0))])⟩
theorem mo82_4 [Val] [Bet] : MemoOK Tryz.prog me82_4 := memoB_ok (exe0_sound 100000) (by decide +kernel)
def me82_5 : ME := ⟨293, [(.agg [(.int .i64 (.ofNat 2)), (.int .i64 (.ofNat 1)), (.int .i64 (.ofNat 1)), (.int .i64 (.ofNat 0)), (.int .i64 (.ofNat 0))]), (.int .i64 (.ofNat 1)), (.int .i64 (.ofNat 1)), (.int .i64 (.ofNat 0)), (.int .i64 (.ofNat 0))], ⟨0, .e⟩, (.agg [(.int .i64 (.ofNat 2)), (.int .i64 (.ofNat 1)), (.int .i64 (.ofNat 1)), (.int .i64 (.ofNat 0)), (.int .i64 (.ofNat 0))])⟩
theorem mo82_5 [Val] [Bet] : MemoOK Tryz.prog me82_5 := memoB_ok (exe0_sound 100000) (by decide +kernel)
def me82_6 : ME := ⟨293, [(.agg [(.int .i64 (.ofNat 2)), (.int .i64 (.ofNat 1)), (.int .i64 (.ofNat 1)), (.int .i64 (.ofNat 0)), (.int .i64 (.ofNat 0))]), (.int .i64 (.ofNat 1)), (.int .i64 (.ofNat 0)), (.int .i64 (.ofNat 0)), (.int .i64 (.ofNat 0))], ⟨0, .e⟩, (.agg [(.int .i64 (.ofNat 3)), (.int .i64 (.ofNat 1)), (.int .i64 (.ofNat 0)), (.int .i64 (.ofNat 0)), (.int .i64 (.ofNat 0))])⟩
theorem mo82_6 [Val] [Bet] : MemoOK Tryz.prog me82_6 := memoB_ok (exe0_sound 100000) (by decide +kernel)
def me82_7 : ME := ⟨293, [(.agg [(.int .i64 (.ofNat 2)), (.int .i64 (.ofNat 1)), (.int .i64 (.ofNat 1)), (.int .i64 (.ofNat 0)), (.int .i64 (.ofNat 0))]), (.int .i64 (.ofNat 0)), (.int .i64 (.ofNat 1)), (.int .i64 (.ofNat 0)), (.int .i64 (.ofNat 0))], ⟨0, .e⟩, (.agg [(.int .i64 (.ofNat 3)), (.int .i64 (.ofNat 0)), (.int .i64 (.ofNat 1)), (.int .i64 (.ofNat 0)), (.int .i64 (.ofNat 0))])⟩
theorem mo82_7 [Val] [Bet] : MemoOK Tryz.prog me82_7 := memoB_ok (exe0_sound 100000) (by decide +kernel)
def me82_8 : ME := ⟨293, [(.agg [(.int .i64 (.ofNat 2)), (.int .i64 (.ofNat 0)), (.int .i64 (.ofNat 0)), (.int .i64 (.ofNat 2)), (.int .i64 (.ofNat 1))]), (.int .i64 (.ofNat 0)), (.int .i64 (.ofNat 0)), (.int .i64 (.ofNat 0)), (.int .i64 (.ofNat 0))], ⟨0, .e⟩, (.agg [(.int .i64 (.ofNat 4)), (.int .i64 (.ofNat 0)), (.int .i64 (.ofNat 0)), (.int .i64 (.ofNat 0)), (.int .i64 (.ofNat 0))])⟩
theorem mo82_8 [Val] [Bet] : MemoOK Tryz.prog me82_8 := memoB_ok (exe0_sound 100000) (by decide +kernel)
def me82_9 : ME := ⟨293, [(.agg [(.int .i64 (.ofNat 2)), (.int .i64 (.ofNat 0)), (.int .i64 (.ofNat 0)), (.int .i64 (.ofNat 2)), (.int .i64 (.ofNat 1))]), (.int .i64 (.ofNat 0)), (.int .i64 (.ofNat 0)), (.int .i64 (.ofNat 2)), (.int .i64 (.ofNat 1))], ⟨0, .e⟩, (.agg [(.int .i64 (.ofNat 2)), (.int .i64 (.ofNat 0)), (.int .i64 (.ofNat 0)), (.int .i64 (.ofNat 2)), (.int .i64 (.ofNat 1))])⟩
theorem mo82_9 [Val] [Bet] : MemoOK Tryz.prog me82_9 := memoB_ok (exe0_sound 100000) (by decide +kernel)
def me82_10 : ME := ⟨293, [(.agg [(.int .i64 (.ofNat 2)), (.int .i64 (.ofNat 0)), (.int .i64 (.ofNat 0)), (.int .i64 (.ofNat 2)), (.int .i64 (.ofNat 1))]), (.int .i64 (.ofNat 0)), (.int .i64 (.ofNat 1)), (.int .i64 (.ofNat 0)), (.int .i64 (.ofNat 0))], ⟨0, .e⟩, (.agg [(.int .i64 (.ofNat 3)), (.int .i64 (.ofNat 0)), (.int .i64 (.ofNat 1)), (.int .i64 (.ofNat 0)), (.int .i64 (.ofNat 0))])⟩
theorem mo82_10 [Val] [Bet] : MemoOK Tryz.prog me82_10 := memoB_ok (exe0_sound 100000) (by decide +kernel)
def me82_11 : ME := ⟨293, [(.agg [(.int .i64 (.ofNat 2)), (.int .i64 (.ofNat 0)), (.int .i64 (.ofNat 0)), (.int .i64 (.ofNat 2)), (.int .i64 (.ofNat 1))]), (.int .i64 (.ofNat 1)), (.int .i64 (.ofNat 0)), (.int .i64 (.ofNat 0)), (.int .i64 (.ofNat 0))], ⟨0, .e⟩, (.agg [(.int .i64 (.ofNat 3)), (.int .i64 (.ofNat 1)), (.int .i64 (.ofNat 0)), (.int .i64 (.ofNat 0)), (.int .i64 (.ofNat 0))])⟩
theorem mo82_11 [Val] [Bet] : MemoOK Tryz.prog me82_11 := memoB_ok (exe0_sound 100000) (by decide +kernel)
def me82_12 : ME := ⟨293, [(.agg [(.int .i64 (.ofNat 2)), (.int .i64 (.ofNat 0)), (.int .i64 (.ofNat 0)), (.int .i64 (.ofNat 2)), (.int .i64 (.ofNat 1))]), (.int .i64 (.ofNat 0)), (.int .i64 (.ofNat 0)), (.int .i64 (.ofNat 1)), (.int .i64 (.ofNat 1))], ⟨0, .e⟩, (.agg [(.int .i64 (.ofNat 3)), (.int .i64 (.ofNat 0)), (.int .i64 (.ofNat 0)), (.int .i64 (.ofNat 1)), (.int .i64 (.ofNat 1))])⟩
theorem mo82_12 [Val] [Bet] : MemoOK Tryz.prog me82_12 := memoB_ok (exe0_sound 100000) (by decide +kernel)
def me82_13 : ME := ⟨293, [(.agg [(.int .i64 (.ofNat 3)), (.int .i64 (.ofNat 0)), (.int .i64 (.ofNat 0)), (.int .i64 (.ofNat 1)), (.int .i64 (.ofNat 1))]), (.int .i64 (.ofNat 0)), (.int .i64 (.ofNat 0)), (.int .i64 (.ofNat 0)), (.int .i64 (.ofNat 0))], ⟨0, .e⟩, (.agg [(.int .i64 (.ofNat 4)), (.int .i64 (.ofNat 0)), (.int .i64 (.ofNat 0)), (.int .i64 (.ofNat 0)), (.int .i64 (.ofNat 0))])⟩
theorem mo82_13 [Val] [Bet] : MemoOK Tryz.prog me82_13 := memoB_ok (exe0_sound 100000) (by decide +kernel)
def me82_14 : ME := ⟨293, [(.agg [(.int .i64 (.ofNat 3)), (.int .i64 (.ofNat 0)), (.int .i64 (.ofNat 0)), (.int .i64 (.ofNat 1)), (.int .i64 (.ofNat 1))]), (.int .i64 (.ofNat 0)), (.int .i64 (.ofNat 0)), (.int .i64 (.ofNat 1)), (.int .i64 (.ofNat 1))], ⟨0, .e⟩, (.agg [(.int .i64 (.ofNat 3)), (.int .i64 (.ofNat 0)), (.int .i64 (.ofNat 0)), (.int .i64 (.ofNat 1)), (.int .i64 (.ofNat 1))])⟩
theorem mo82_14 [Val] [Bet] : MemoOK Tryz.prog me82_14 := memoB_ok (exe0_sound 100000) (by decide +kernel)
def me82_15 : ME := ⟨293, [(.agg [(.int .i64 (.ofNat 3)), (.int .i64 (.ofNat 0)), (.int .i64 (.ofNat 0)), (.int .i64 (.ofNat 1)), (.int .i64 (.ofNat 1))]), (.int .i64 (.ofNat 0)), (.int .i64 (.ofNat 1)), (.int .i64 (.ofNat 0)), (.int .i64 (.ofNat 0))], ⟨0, .e⟩, (.agg [(.int .i64 (.ofNat 3)), (.int .i64 (.ofNat 0)), (.int .i64 (.ofNat 1)), (.int .i64 (.ofNat 0)), (.int .i64 (.ofNat 0))])⟩
theorem mo82_15 [Val] [Bet] : MemoOK Tryz.prog me82_15 := memoB_ok (exe0_sound 100000) (by decide +kernel)
def me82_16 : ME := ⟨293, [(.agg [(.int .i64 (.ofNat 3)), (.int .i64 (.ofNat 0)), (.int .i64 (.ofNat 0)), (.int .i64 (.ofNat 1)), (.int .i64 (.ofNat 1))]), (.int .i64 (.ofNat 1)), (.int .i64 (.ofNat 0)), (.int .i64 (.ofNat 0)), (.int .i64 (.ofNat 0))], ⟨0, .e⟩, (.agg [(.int .i64 (.ofNat 3)), (.int .i64 (.ofNat 1)), (.int .i64 (.ofNat 0)), (.int .i64 (.ofNat 0)), (.int .i64 (.ofNat 0))])⟩
theorem mo82_16 [Val] [Bet] : MemoOK Tryz.prog me82_16 := memoB_ok (exe0_sound 100000) (by decide +kernel)
def me82_17 : ME := ⟨293, [(.agg [(.int .i64 (.ofNat 3)), (.int .i64 (.ofNat 0)), (.int .i64 (.ofNat 0)), (.int .i64 (.ofNat 1)), (.int .i64 (.ofNat 1))]), (.int .i64 (.ofNat 0)), (.int .i64 (.ofNat 0)), (.int .i64 (.ofNat 0)), (.int .i64 (.ofNat 1))], ⟨0, .e⟩, (.agg [(.int .i64 (.ofNat 4)), (.int .i64 (.ofNat 0)), (.int .i64 (.ofNat 0)), (.int .i64 (.ofNat 0)), (.int .i64 (.ofNat 1))])⟩
theorem mo82_17 [Val] [Bet] : MemoOK Tryz.prog me82_17 := memoB_ok (exe0_sound 100000) (by decide +kernel)
def me82_18 : ME := ⟨293, [(.agg [(.int .i64 (.ofNat 2)), (.int .i64 (.ofNat 0)), (.int .i64 (.ofNat 0)), (.int .i64 (.ofNat 2)), (.int .i64 (.ofNat 1))]), (.int .i64 (.ofNat 1)), (.int .i64 (.ofNat 1)), (.int .i64 (.ofNat 0)), (.int .i64 (.ofNat 0))], ⟨0, .e⟩, (.agg [(.int .i64 (.ofNat 2)), (.int .i64 (.ofNat 1)), (.int .i64 (.ofNat 1)), (.int .i64 (.ofNat 0)), (.int .i64 (.ofNat 0))])⟩
theorem mo82_18 [Val] [Bet] : MemoOK Tryz.prog me82_18 := memoB_ok (exe0_sound 100000) (by decide +kernel)
def me82_19 : ME := ⟨293, [(.agg [(.int .i64 (.ofNat 2)), (.int .i64 (.ofNat 0)), (.int .i64 (.ofNat 0)), (.int .i64 (.ofNat 2)), (.int .i64 (.ofNat 1))]), (.int .i64 (.ofNat 0)), (.int .i64 (.ofNat 0)), (.int .i64 (.ofNat 0)), (.int .i64 (.ofNat 1))], ⟨0, .e⟩, (.agg [(.int .i64 (.ofNat 4)), (.int .i64 (.ofNat 0)), (.int .i64 (.ofNat 0)), (.int .i64 (.ofNat 0)), (.int .i64 (.ofNat 1))])⟩
theorem mo82_19 [Val] [Bet] : MemoOK Tryz.prog me82_19 := memoB_ok (exe0_sound 100000) (by decide +kernel)
def me82_20 : ME := ⟨293, [(.agg [(.int .i64 (.ofNat 2)), (.int .i64 (.ofNat 0)), (.int .i64 (.ofNat 0)), (.int .i64 (.ofNat 2)), (.int .i64 (.ofNat 1))]), (.int .i64 (.ofNat 0)), (.int .i64 (.ofNat 2)), (.int .i64 (.ofNat 0)), (.int .i64 (.ofNat 0))], ⟨0, .e⟩, (.agg [(.int .i64 (.ofNat 2)), (.int .i64 (.ofNat 0)), (.int .i64 (.ofNat 2)), (.int .i64 (.ofNat 0)), (.int .i64 (.ofNat 0))])⟩
theorem mo82_20 [Val] [Bet] : MemoOK Tryz.prog me82_20 := memoB_ok (exe0_sound 100000) (by decide +kernel)
def me82_21 : ME := ⟨293, [(.agg [(.int .i64 (.ofNat 2)), (.int .i64 (.ofNat 0)), (.int .i64 (.ofNat 0)), (.int .i64 (.ofNat 2)), (.int .i64 (.ofNat 1))]), (.int .i64 (.ofNat 2)), (.int .i64 (.ofNat 0)), (.int .i64 (.ofNat 0)), (.int .i64 (.ofNat 0))], ⟨0, .e⟩, (.agg [(.int .i64 (.ofNat 2)), (.int .i64 (.ofNat 2)), (.int .i64 (.ofNat 0)), (.int .i64 (.ofNat 0)), (.int .i64 (.ofNat 0))])⟩
theorem mo82_21 [Val] [Bet] : MemoOK Tryz.prog me82_21 := memoB_ok (exe0_sound 100000) (by decide +kernel)
def me82_22 : ME := ⟨293, [(.agg [(.int .i64 (.ofNat 2)), (.int .i64 (.ofNat 0)), (.int .i64 (.ofNat 2)), (.int .i64 (.ofNat 0)), (.int .i64 (.ofNat 0))]), (.int .i64 (.ofNat 0)), (.int .i64 (.ofNat 0)), (.int .i64 (.ofNat 0)), (.int .i64 (.ofNat 0))], ⟨0, .e⟩, (.agg [(.int .i64 (.ofNat 4)), (.int .i64 (.ofNat 0)), (.int .i64 (.ofNat 0)), (.int .i64 (.ofNat 0)), (.int .i64 (.ofNat 0))])⟩
theorem mo82_22 [Val] [Bet] : MemoOK Tryz.prog me82_22 := memoB_ok (exe0_sound 100000) (by decide +kernel)
def me82_23 : ME := ⟨293, [(.agg [(.int .i64 (.ofNat 2)), (.int .i64 (.ofNat 0)), (.int .i64 (.ofNat 2)), (.int .i64 (.ofNat 0)), (.int .i64 (.ofNat 0))]), (.int .i64 (.ofNat 0)), (.int .i64 (.ofNat 2)), (.int .i64 (.ofNat 0)), (.int .i64 (.ofNat 0))], ⟨0, .e⟩, (.agg [(.int .i64 (.ofNat 2)), (.int .i64 (.ofNat 0)), (.int .i64 (.ofNat 2)), (.int .i64 (.ofNat 0)), (.int .i64 (.ofNat 0))])⟩
theorem mo82_23 [Val] [Bet] : MemoOK Tryz.prog me82_23 := memoB_ok (exe0_sound 100000) (by decide +kernel)
def me82_24 : ME := ⟨293, [(.agg [(.int .i64 (.ofNat 2)), (.int .i64 (.ofNat 0)), (.int .i64 (.ofNat 2)), (.int .i64 (.ofNat 0)), (.int .i64 (.ofNat 0))]), (.int .i64 (.ofNat 0)), (.int .i64 (.ofNat 1)), (.int .i64 (.ofNat 0)), (.int .i64 (.ofNat 0))], ⟨0, .e⟩, (.agg [(.int .i64 (.ofNat 3)), (.int .i64 (.ofNat 0)), (.int .i64 (.ofNat 1)), (.int .i64 (.ofNat 0)), (.int .i64 (.ofNat 0))])⟩
theorem mo82_24 [Val] [Bet] : MemoOK Tryz.prog me82_24 := memoB_ok (exe0_sound 100000) (by decide +kernel)
def me82_25 : ME := ⟨293, [(.agg [(.int .i64 (.ofNat 2)), (.int .i64 (.ofNat 2)), (.int .i64 (.ofNat 0)), (.int .i64 (.ofNat 0)), (.int .i64 (.ofNat 0))]), (.int .i64 (.ofNat 0)), (.int .i64 (.ofNat 0)), (.int .i64 (.ofNat 0)), (.int .i64 (.ofNat 0))], ⟨0, .e⟩, (.agg [(.int .i64 (.ofNat 4)), (.int .i64 (.ofNat 0)), (.int .i64 (.ofNat 0)), (.int .i64 (.ofNat 0)), (.int .i64 (.ofNat 0))])⟩
theorem mo82_25 [Val] [Bet] : MemoOK Tryz.prog me82_25 := memoB_ok (exe0_sound 100000) (by decide +kernel)
def me82_26 : ME := ⟨293, [(.agg [(.int .i64 (.ofNat 2)), (.int .i64 (.ofNat 2)), (.int .i64 (.ofNat 0)), (.int .i64 (.ofNat 0)), (.int .i64 (.ofNat 0))]), (.int .i64 (.ofNat 2)), (.int .i64 (.ofNat 0)), (.int .i64 (.ofNat 0)), (.int .i64 (.ofNat 0))], ⟨0, .e⟩, (.agg [(.int .i64 (.ofNat 2)), (.int .i64 (.ofNat 2)), (.int .i64 (.ofNat 0)), (.int .i64 (.ofNat 0)), (.int .i64 (.ofNat 0))])⟩
theorem mo82_26 [Val] [Bet] : MemoOK Tryz.prog me82_26 := memoB_ok (exe0_sound 100000) (by decide +kernel)
def me82_27 : ME := ⟨293, [(.agg [(.int .i64 (.ofNat 2)), (.int .i64 (.ofNat 2)), (.int .i64 (.ofNat 0)), (.int .i64 (.ofNat 0)), (.int .i64 (.ofNat 0))]), (.int .i64 (.ofNat 1)), (.int .i64 (.ofNat 0)), (.int .i64 (.ofNat 0)), (.int .i64 (.ofNat 0))], ⟨0, .e⟩, (.agg [(.int .i64 (.ofNat 3)), (.int .i64 (.ofNat 1)), (.int .i64 (.ofNat 0)), (.int .i64 (.ofNat 0)), (.int .i64 (.ofNat 0))])⟩
theorem mo82_27 [Val] [Bet] : MemoOK Tryz.prog me82_27 := memoB_ok (exe0_sound 100000) (by decide +kernel)
def me82_28 : ME := ⟨293, [(.agg [(.int .i64 (.ofNat 0)), (.int .i64 (.ofNat 0)), (.int .i64 (.ofNat 0)), (.int .i64 (.ofNat 4)), (.int .i64 (.ofNat 1))]), (.int .i64 (.ofNat 2)), (.int .i64 (.ofNat 2)), (.int .i64 (.ofNat 0)), (.int .i64 (.ofNat 0))], ⟨0, .e⟩, (.agg [(.int .i64 (.ofNat 0)), (.int .i64 (.ofNat 2)), (.int .i64 (.ofNat 2)), (.int .i64 (.ofNat 0)), (.int .i64 (.ofNat 0))])⟩
theorem mo82_28 [Val] [Bet] : MemoOK Tryz.prog me82_28 := memoB_ok (exe0_sound 100000) (by decide +kernel)
def me82_29 : ME := ⟨293, [(.agg [(.int .i64 (.ofNat 0)), (.int .i64 (.ofNat 0)), (.int .i64 (.ofNat 0)), (.int .i64 (.ofNat 4)), (.int .i64 (.ofNat 1))]), (.int .i64 (.ofNat 0)), (.int .i64 (.ofNat 0)), (.int .i64 (.ofNat 0)), (.int .i64 (.ofNat 1))], ⟨0, .e⟩, (.agg [(.int .i64 (.ofNat 4)), (.int .i64 (.ofNat 0)), (.int .i64 (.ofNat 0)), (.int .i64 (.ofNat 0)), (.int .i64 (.ofNat 1))])⟩
theorem mo82_29 [Val] [Bet] : MemoOK Tryz.prog me82_29 := memoB_ok (exe0_sound 100000) (by decide +kernel)
def me82_30 : ME := ⟨293, [(.agg [(.int .i64 (.ofNat 0)), (.int .i64 (.ofNat 2)), (.int .i64 (.ofNat 2)), (.int .i64 (.ofNat 0)), (.int .i64 (.ofNat 0))]), (.int .i64 (.ofNat 0)), (.int .i64 (.ofNat 0)), (.int .i64 (.ofNat 0)), (.int .i64 (.ofNat 0))], ⟨0, .e⟩, (.agg [(.int .i64 (.ofNat 4)), (.int .i64 (.ofNat 0)), (.int .i64 (.ofNat 0)), (.int .i64 (.ofNat 0)), (.int .i64 (.ofNat 0))])⟩
theorem mo82_30 [Val] [Bet] : MemoOK Tryz.prog me82_30 := memoB_ok (exe0_sound 100000) (by decide +kernel)
def me82_31 : ME := ⟨293, [(.agg [(.int .i64 (.ofNat 0)), (.int .i64 (.ofNat 2)), (.int .i64 (.ofNat 2)), (.int .i64 (.ofNat 0)), (.int .i64 (.ofNat 0))]), (.int .i64 (.ofNat 2)), (.int .i64 (.ofNat 2)), (.int .i64 (.ofNat 0)), (.int .i64 (.ofNat 0))], ⟨0, .e⟩, (.agg [(.int .i64 (.ofNat 0)), (.int .i64 (.ofNat 2)), (.int .i64 (.ofNat 2)), (.int .i64 (.ofNat 0)), (.int .i64 (.ofNat 0))])⟩
theorem mo82_31 [Val] [Bet] : MemoOK Tryz.prog me82_31 := memoB_ok (exe0_sound 100000) (by decide +kernel)
def me82_32 : ME := ⟨293, [(.agg [(.int .i64 (.ofNat 0)), (.int .i64 (.ofNat 2)), (.int .i64 (.ofNat 2)), (.int .i64 (.ofNat 0)), (.int .i64 (.ofNat 0))]), (.int .i64 (.ofNat 1)), (.int .i64 (.ofNat 0)), (.int .i64 (.ofNat 0)), (.int .i64 (.ofNat 0))], ⟨0, .e⟩, (.agg [(.int .i64 (.ofNat 3)), (.int .i64 (.ofNat 1)), (.int .i64 (.ofNat 0)), (.int .i64 (.ofNat 0)), (.int .i64 (.ofNat 0))])⟩
theorem mo82_32 [Val] [Bet] : MemoOK Tryz.prog me82_32 := memoB_ok (exe0_sound 100000) (by decide +kernel)
def me82_33 : ME := ⟨293, [(.agg [(.int .i64 (.ofNat 0)), (.int .i64 (.ofNat 2)), (.int .i64 (.ofNat 2)), (.int .i64 (.ofNat 0)), (.int .i64 (.ofNat 0))]), (.int .i64 (.ofNat 0)), (.int .i64 (.ofNat 2)), (.int .i64 (.ofNat 0)), (.int .i64 (.ofNat 0))], ⟨0, .e⟩, (.agg [(.int .i64 (.ofNat 2)), (.int .i64 (.ofNat 0)), (.int .i64 (.ofNat 2)), (.int .i64 (.ofNat 0)), (.int .i64 (.ofNat 0))])⟩
theorem mo82_33 [Val] [Bet] : MemoOK Tryz.prog me82_33 := memoB_ok (exe0_sound 100000) (by decide +kernel)
def me82_34 : ME := ⟨293, [(.agg [(.int .i64 (.ofNat 0)), (.int .i64 (.ofNat 2)), (.int .i64 (.ofNat 2)), (.int .i64 (.ofNat 0)), (.int .i64 (.ofNat 0))]), (.int .i64 (.ofNat 1)), (.int .i64 (.ofNat 1)), (.int .i64 (.ofNat 0)), (.int .i64 (.ofNat 0))], ⟨0, .e⟩, (.agg [(.int .i64 (.ofNat 2)), (.int .i64 (.ofNat 1)), (.int .i64 (.ofNat 1)), (.int .i64 (.ofNat 0)), (.int .i64 (.ofNat 0))])⟩
theorem mo82_34 [Val] [Bet] : MemoOK Tryz.prog me82_34 := memoB_ok (exe0_sound 100000) (by decide +kernel)
def me82_35 : ME := ⟨293, [(.agg [(.int .i64 (.ofNat 0)), (.int .i64 (.ofNat 2)), (.int .i64 (.ofNat 2)), (.int .i64 (.ofNat 0)), (.int .i64 (.ofNat 0))]), (.int .i64 (.ofNat 0)), (.int .i64 (.ofNat 1)), (.int .i64 (.ofNat 0)), (.int .i64 (.ofNat 0))], ⟨0, .e⟩, (.agg [(.int .i64 (.ofNat 3)), (.int .i64 (.ofNat 0)), (.int .i64 (.ofNat 1)), (.int .i64 (.ofNat 0)), (.int .i64 (.ofNat 0))])⟩
theorem mo82_35 [Val] [Bet] : MemoOK Tryz.prog me82_35 := memoB_ok (exe0_sound 100000) (by decide +kernel)
def me82_36 : ME := ⟨293, [(.agg [(.int .i64 (.ofNat 0)), (.int .i64 (.ofNat 2)), (.int .i64 (.ofNat 2)), (.int .i64 (.ofNat 0)), (.int .i64 (.ofNat 0))]), (.int .i64 (.ofNat 2)), (.int .i64 (.ofNat 0)), (.int .i64 (.ofNat 0)), (.int .i64 (.ofNat 0))], ⟨0, .e⟩, (.agg [(.int .i64 (.ofNat 2)), (.int .i64 (.ofNat 2)), (.int .i64 (.ofNat 0)), (.int .i64 (.ofNat 0)), (.int .i64 (.ofNat 0))])⟩
theorem mo82_36 [Val] [Bet] : MemoOK Tryz.prog me82_36 := memoB_ok (exe0_sound 100000) (by decide +kernel)
def me82_37 : ME := ⟨293, [(.agg [(.int .i64 (.ofNat 0)), (.int .i64 (.ofNat 3)), (.int .i64 (.ofNat 0)), (.int .i64 (.ofNat 0)), (.int .i64 (.ofNat 0))]), (.int .i64 (.ofNat 0)), (.int .i64 (.ofNat 0)), (.int .i64 (.ofNat 0)), (.int .i64 (.ofNat 0))], ⟨0, .e⟩, (.agg [(.int .i64 (.ofNat 3)), (.int .i64 (.ofNat 0)), (.int .i64 (.ofNat 0)), (.int .i64 (.ofNat 0)), (.int .i64 (.ofNat 0))])⟩
theorem mo82_37 [Val] [Bet] : MemoOK Tryz.prog me82_37 := memoB_ok (exe0_sound 100000) (by decide +kernel)
def me82_38 : ME := ⟨293, [(.agg [(.int .i64 (.ofNat 0)), (.int .i64 (.ofNat 3)), (.int .i64 (.ofNat 0)), (.int .i64 (.ofNat 0)), (.int .i64 (.ofNat 0))]), (.int .i64 (.ofNat 3)), (.int .i64 (.ofNat 0)), (.int .i64 (.ofNat 0)), (.int .i64 (.ofNat 0))], ⟨0, .e⟩, (.agg [(.int .i64 (.ofNat 0)), (.int .i64 (.ofNat 3)), (.int .i64 (.ofNat 0)), (.int .i64 (.ofNat 0)), (.int .i64 (.ofNat 0))])⟩
theorem mo82_38 [Val] [Bet] : MemoOK Tryz.prog me82_38 := memoB_ok (exe0_sound 100000) (by decide +kernel)
def me82_39 : ME := ⟨293, [(.agg [(.int .i64 (.ofNat 0)), (.int .i64 (.ofNat 3)), (.int .i64 (.ofNat 0)), (.int .i64 (.ofNat 0)), (.int .i64 (.ofNat 0))]), (.int .i64 (.ofNat 1)), (.int .i64 (.ofNat 0)), (.int .i64 (.ofNat 0)), (.int .i64 (.ofNat 0))], ⟨0, .e⟩, (.agg [(.int .i64 (.ofNat 2)), (.int .i64 (.ofNat 1)), (.int .i64 (.ofNat 0)), (.int .i64 (.ofNat 0)), (.int .i64 (.ofNat 0))])⟩
theorem mo82_39 [Val] [Bet] : MemoOK Tryz.prog me82_39 := memoB_ok (exe0_sound 100000) (by decide +kernel)
def me82_40 : ME := ⟨293, [(.agg [(.int .i64 (.ofNat 0)), (.int .i64 (.ofNat 0)), (.int .i64 (.ofNat 0)), (.int .i64 (.ofNat 2)), (.int .i64 (.ofNat 0))]), (.int .i64 (.ofNat 0)), (.int .i64 (.ofNat 0)), (.int .i64 (.ofNat 0)), (.int .i64 (.ofNat 0))], ⟨0, .e⟩, (.agg [(.int .i64 (.ofNat 2)), (.int .i64 (.ofNat 0)), (.int .i64 (.ofNat 0)), (.int .i64 (.ofNat 0)), (.int .i64 (.ofNat 0))])⟩
theorem mo82_40 [Val] [Bet] : MemoOK Tryz.prog me82_40 := memoB_ok (exe0_sound 100000) (by decide +kernel)
def me82_41 : ME := ⟨293, [(.agg [(.int .i64 (.ofNat 0)), (.int .i64 (.ofNat 0)), (.int .i64 (.ofNat 0)), (.int .i64 (.ofNat 2)), (.int .i64 (.ofNat 0))]), (.int .i64 (.ofNat 0)), (.int .i64 (.ofNat 0)), (.int .i64 (.ofNat 2)), (.int .i64 (.ofNat 0))], ⟨0, .e⟩, (.agg [(.int .i64 (.ofNat 0)), (.int .i64 (.ofNat 0)), (.int .i64 (.ofNat 0)), (.int .i64 (.ofNat 2)), (.int .i64 (.ofNat 0))])⟩
theorem mo82_41 [Val] [Bet] : MemoOK Tryz.prog me82_41 := memoB_ok (exe0_sound 100000) (by decide +kernel)
def me82_42 : ME := ⟨293, [(.agg [(.int .i64 (.ofNat 0)), (.int .i64 (.ofNat 0)), (.int .i64 (.ofNat 0)), (.int .i64 (.ofNat 2)), (.int .i64 (.ofNat 0))]), (.int .i64 (.ofNat 1)), (.int .i64 (.ofNat 1)), (.int .i64 (.ofNat 0)), (.int .i64 (.ofNat 0))], ⟨0, .e⟩, (.agg [(.int .i64 (.ofNat 0)), (.int .i64 (.ofNat 1)), (.int .i64 (.ofNat 1)), (.int .i64 (.ofNat 0)), (.int .i64 (.ofNat 0))])⟩
theorem mo82_42 [Val] [Bet] : MemoOK Tryz.prog me82_42 := memoB_ok (exe0_sound 100000) (by decide +kernel)
def me82_43 : ME := ⟨293, [(.agg [(.int .i64 (.ofNat 0)), (.int .i64 (.ofNat 1)), (.int .i64 (.ofNat 1)), (.int .i64 (.ofNat 0)), (.int .i64 (.ofNat 0))]), (.int .i64 (.ofNat 0)), (.int .i64 (.ofNat 0)), (.int .i64 (.ofNat 0)), (.int .i64 (.ofNat 0))], ⟨0, .e⟩, (.agg [(.int .i64 (.ofNat 2)), (.int .i64 (.ofNat 0)), (.int .i64 (.ofNat 0)), (.int .i64 (.ofNat 0)), (.int .i64 (.ofNat 0))])⟩
theorem mo82_43 [Val] [Bet] : MemoOK Tryz.prog me82_43 := memoB_ok (exe0_sound 100000) (by decide +kernel)
def me82_44 : ME := ⟨293, [(.agg [(.int .i64 (.ofNat 0)), (.int .i64 (.ofNat 1)), (.int .i64 (.ofNat 1)), (.int .i64 (.ofNat 0)), (.int .i64 (.ofNat 0))]), (.int .i64 (.ofNat 1)), (.int .i64 (.ofNat 1)), (.int .i64 (.ofNat 0)), (.int .i64 (.ofNat 0))], ⟨0, .e⟩, (.agg [(.int .i64 (.ofNat 0)), (.int .i64 (.ofNat 1)), (.int .i64 (.ofNat 1)), (.int .i64 (.ofNat 0)), (.int .i64 (.ofNat 0))])⟩
theorem mo82_44 [Val] [Bet] : MemoOK Tryz.prog me82_44 := memoB_ok (exe0_sound 100000) (by decide +kernel)
def me82_45 : ME := ⟨293, [(.agg [(.int .i64 (.ofNat 2)), (.int .i64 (.ofNat 0)), (.int .i64 (.ofNat 0)), (.int .i64 (.ofNat 1)), (.int .i64 (.ofNat 0))]), (.int .i64 (.ofNat 0)), (.int .i64 (.ofNat 0)), (.int .i64 (.ofNat 0)), (.int .i64 (.ofNat 0))], ⟨0, .e⟩, (.agg [(.int .i64 (.ofNat 3)), (.int .i64 (.ofNat 0)), (.int .i64 (.ofNat 0)), (.int .i64 (.ofNat 0)), (.int .i64 (.ofNat 0))])⟩
theorem mo82_45 [Val] [Bet] : MemoOK Tryz.prog me82_45 := memoB_ok (exe0_sound 100000) (by decide +kernel)
def me82_46 : ME := ⟨293, [(.agg [(.int .i64 (.ofNat 2)), (.int .i64 (.ofNat 0)), (.int .i64 (.ofNat 0)), (.int .i64 (.ofNat 1)), (.int .i64 (.ofNat 0))]), (.int .i64 (.ofNat 0)), (.int .i64 (.ofNat 0)), (.int .i64 (.ofNat 1)), (.int .i64 (.ofNat 0))], ⟨0, .e⟩, (.agg [(.int .i64 (.ofNat 2)), (.int .i64 (.ofNat 0)), (.int .i64 (.ofNat 0)), (.int .i64 (.ofNat 1)), (.int .i64 (.ofNat 0))])⟩
theorem mo82_46 [Val] [Bet] : MemoOK Tryz.prog me82_46 := memoB_ok (exe0_sound 100000) (by decide +kernel)
def me82_47 : ME := ⟨293, [(.agg [(.int .i64 (.ofNat 2)), (.int .i64 (.ofNat 0)), (.int .i64 (.ofNat 0)), (.int .i64 (.ofNat 1)), (.int .i64 (.ofNat 0))]), (.int .i64 (.ofNat 0)), (.int .i64 (.ofNat 1)), (.int .i64 (.ofNat 0)), (.int .i64 (.ofNat 0))], ⟨0, .e⟩, (.agg [(.int .i64 (.ofNat 2)), (.int .i64 (.ofNat 0)), (.int .i64 (.ofNat 1)), (.int .i64 (.ofNat 0)), (.int .i64 (.ofNat 0))])⟩
theorem mo82_47 [Val] [Bet] : MemoOK Tryz.prog me82_47 := memoB_ok (exe0_sound 100000) (by decide +kernel)
def me82_48 : ME := ⟨293, [(.agg [(.int .i64 (.ofNat 2)), (.int .i64 (.ofNat 0)), (.int .i64 (.ofNat 0)), (.int .i64 (.ofNat 1)), (.int .i64 (.ofNat 0))]), (.int .i64 (.ofNat 1)), (.int .i64 (.ofNat 0)), (.int .i64 (.ofNat 0)), (.int .i64 (.ofNat 0))], ⟨0, .e⟩, (.agg [(.int .i64 (.ofNat 2)), (.int .i64 (.ofNat 1)), (.int .i64 (.ofNat 0)), (.int .i64 (.ofNat 0)), (.int .i64 (.ofNat 0))])⟩
theorem mo82_48 [Val] [Bet] : MemoOK Tryz.prog me82_48 := memoB_ok (exe0_sound 100000) (by decide +kernel)
def mes82 : List ME := [me82_0, me82_1, me82_2, me82_3, me82_4, me82_5, me82_6, me82_7, me82_8, me82_9, me82_10, me82_11, me82_12, me82_13, me82_14, me82_15, me82_16, me82_17, me82_18, me82_19, me82_20, me82_21, me82_22, me82_23, me82_24, me82_25, me82_26, me82_27, me82_28, me82_29, me82_30, me82_31, me82_32, me82_33, me82_34, me82_35, me82_36, me82_37, me82_38, me82_39, me82_40, me82_41, me82_42, me82_43, me82_44, me82_45, me82_46, me82_47, me82_48]
theorem mos82 [Val] [Bet] : ∀ e ∈ mes82, MemoOK Tryz.prog e := by
  intro e he
  simp only [mes82, List.mem_cons, List.not_mem_nil, or_false] at he
  rcases he with rfl | rfl | rfl | rfl | rfl | rfl | rfl | rfl | rfl | rfl | rfl | rfl | rfl | rfl | rfl | rfl | rfl | rfl | rfl | rfl | rfl | rfl | rfl | rfl | rfl | rfl | rfl | rfl | rfl | rfl | rfl | rfl | rfl | rfl | rfl | rfl | rfl | rfl | rfl | rfl | rfl | rfl | rfl | rfl | rfl | rfl | rfl | rfl | rfl
  · exact mo82_0
  · exact mo82_1
  · exact mo82_2
  · exact mo82_3
  · exact mo82_4
  · exact mo82_5
  · exact mo82_6
  · exact mo82_7
  · exact mo82_8
  · exact mo82_9
  · exact mo82_10
  · exact mo82_11
  · exact mo82_12
  · exact mo82_13
  · exact mo82_14
  · exact mo82_15
  · exact mo82_16
  · exact mo82_17
  · exact mo82_18
  · exact mo82_19
  · exact mo82_20
  · exact mo82_21
  · exact mo82_22
  · exact mo82_23
  · exact mo82_24
  · exact mo82_25
  · exact mo82_26
  · exact mo82_27
  · exact mo82_28
  · exact mo82_29
  · exact mo82_30
  · exact mo82_31
  · exact mo82_32
  · exact mo82_33
  · exact mo82_34
  · exact mo82_35
  · exact mo82_36
  · exact mo82_37
  · exact mo82_38
  · exact mo82_39
  · exact mo82_40
  · exact mo82_41
  · exact mo82_42
  · exact mo82_43
  · exact mo82_44
  · exact mo82_45
  · exact mo82_46
  · exact mo82_47
  · exact mo82_48
end
end Go.Proofs.YtibmpjhffeinoaaGreat.Kx
