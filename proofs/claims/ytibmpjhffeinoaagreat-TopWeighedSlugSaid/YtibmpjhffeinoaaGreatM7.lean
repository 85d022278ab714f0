/-
  Calls whose result is known. Printed by gen_memo.py.
-/
import Derived.Test.YtibmpjhffeinoaaGreatMm
namespace Go.Proofs.YtibmpjhffeinoaaGreat.Kx
open Go Go.RowKit

noncomputable section
def me7_0 : ME := ⟨33, [(.agg [(.sl (some (0, 0)) 1 (.u 1)), (.bool false)])], ⟨1, (.n (.n (.n (.n (.n (.n (.n (.n (.n (.n (.n (.n (.n (.n (.n (.l (.cells [(.int .i64 (.ofNat 1))])) .e) .e) .e) .e) .e) .e) .e) .e) .e) .e) .e) .e) .e) .e) .e)⟩, (.tup [(.int .i64 (.ofNat 0)), (.int .i64 (.ofNat 0))])⟩
theorem mo7_0 [Val] [Bet] : MemoOK Tryz.prog me7_0 := memoB_ok (exe0_sound 100000) (by decide +kernel)
def me7_1 : ME := ⟨33, [(.agg [(.sl (some (0, 0)) 1 (.u 1)), (.bool false)])], ⟨1, (.n (.n (.n (.n (.n (.n (.n (.n (.n (.n (.n (.n (.n (.n (.n (.l (.cells [(.int .i64 (.ofNat 2))])) .e) .e) .e) .e) .e) .e) .e) .e) .e) .e) .e) .e) .e) .e) .e)⟩, (.tup [(.int .i64 (.ofNat 0)), (.int .i64 (.ofNat 0))])⟩
theorem mo7_1 [Val] [Bet] : MemoOK Tryz.prog me7_1 := memoB_ok (exe0_sound 100000) (by decide +kernel)
def me7_2 : ME := ⟨33, [(.agg [(.sl (some (0, 0)) 2 (.u 1)), (.bool false)])], ⟨1, (.n (.n (.n (.n (.n (.n (.n (.n (.n (.n (.n (.n (.n (.n (.n (.l (.cells [(.int .i64 (.ofNat 1)), (.int .i64 (.ofNat 1))])) .e) .e) .e) .e) .e) .e) .e) .e) .e) .e) .e) .e) .e) .e) .e)⟩, (.tup [(.int .i64 (.ofNat 1)), (.int .i64 (.ofNat 0))])⟩
theorem mo7_2 [Val] [Bet] : MemoOK Tryz.prog me7_2 := memoB_ok (exe0_sound 100000) (by decide +kernel)
def me7_3 : ME := ⟨35, [(.agg [(.sl (some (0, 0)) 2 (.u 1)), (.bool false)]), (.sl (some (1, 0)) 2 (.k 2))], ⟨2, (.n (.n (.n (.n (.n (.n (.n (.n (.n (.n (.n (.n (.n (.n (.n (.l (.cells [(.int .i64 (.ofNat 1)), (.int .i64 (.ofNat 1))])) .e) .e) .e) .e) .e) .e) .e) .e) .e) .e) .e) .e) .e) .e) (.n (.n (.n (.n (.n (.n (.n (.n (.n (.n (.n (.n (.n (.n (.l (.cells [(.int .i64 (.ofNat 1)), (.int .i64 (.negSucc 0))])) .e) .e) .e) .e) .e) .e) .e) .e) .e) .e) .e) .e) .e) .e))⟩, (.tup [(.int .i64 (.ofNat 0)), (.int .i64 (.ofNat 0))])⟩
theorem mo7_3 [Val] [Bet] : MemoOK Tryz.prog me7_3 := memoB_ok (exe0_sound 100000) (by decide +kernel)
def me7_4 : ME := ⟨33, [(.agg [(.sl (some (0, 0)) 2 (.u 1)), (.bool false)])], ⟨1, (.n (.n (.n (.n (.n (.n (.n (.n (.n (.n (.n (.n (.n (.n (.n (.l (.cells [(.int .i64 (.ofNat 2)), (.int .i64 (.ofNat 2))])) .e) .e) .e) .e) .e) .e) .e) .e) .e) .e) .e) .e) .e) .e) .e)⟩, (.tup [(.int .i64 (.ofNat 1)), (.int .i64 (.ofNat 0))])⟩
theorem mo7_4 [Val] [Bet] : MemoOK Tryz.prog me7_4 := memoB_ok (exe0_sound 100000) (by decide +kernel)
def me7_5 : ME := ⟨35, [(.agg [(.sl (some (0, 0)) 2 (.u 1)), (.bool false)]), (.sl (some (1, 0)) 2 (.k 2))], ⟨2, (.n (.n (.n (.n (.n (.n (.n (.n (.n (.n (.n (.n (.n (.n (.n (.l (.cells [(.int .i64 (.ofNat 2)), (.int .i64 (.ofNat 2))])) .e) .e) .e) .e) .e) .e) .e) .e) .e) .e) .e) .e) .e) .e) (.n (.n (.n (.n (.n (.n (.n (.n (.n (.n (.n (.n (.n (.n (.l (.cells [(.int .i64 (.ofNat 1)), (.int .i64 (.negSucc 0))])) .e) .e) .e) .e) .e) .e) .e) .e) .e) .e) .e) .e) .e) .e))⟩, (.tup [(.int .i64 (.ofNat 0)), (.int .i64 (.ofNat 0))])⟩
theorem mo7_5 [Val] [Bet] : MemoOK Tryz.prog me7_5 := memoB_ok (exe0_sound 100000) (by decide +kernel)
def me7_6 : ME := ⟨33, [(.agg [(.sl (some (0, 0)) 3 (.u 1)), (.bool false)])], ⟨1, (.n (.n (.n (.n (.n (.n (.n (.n (.n (.n (.n (.n (.n (.n (.n (.l (.cells [(.int .i64 (.ofNat 1)), (.int .i64 (.ofNat 1)), (.int .i64 (.ofNat 1))])) .e) .e) .e) .e) .e) .e) .e) .e) .e) .e) .e) .e) .e) .e) .e)⟩, (.tup [(.int .i64 (.ofNat 1)), (.int .i64 (.ofNat 0))])⟩
theorem mo7_6 [Val] [Bet] : MemoOK Tryz.prog me7_6 := memoB_ok (exe0_sound 100000) (by decide +kernel)
def me7_7 : ME := ⟨35, [(.agg [(.sl (some (0, 0)) 3 (.u 1)), (.bool false)]), (.sl (some (1, 0)) 3 (.k 3))], ⟨2, (.n (.n (.n (.n (.n (.n (.n (.n (.n (.n (.n (.n (.n (.n (.n (.l (.cells [(.int .i64 (.ofNat 1)), (.int .i64 (.ofNat 1)), (.int .i64 (.ofNat 1))])) .e) .e) .e) .e) .e) .e) .e) .e) .e) .e) .e) .e) .e) .e) (.n (.n (.n (.n (.n (.n (.n (.n (.n (.n (.n (.n (.n (.n (.l (.cells [(.int .i64 (.ofNat 1)), (.int .i64 (.ofNat 0)), (.int .i64 (.negSucc 0))])) .e) .e) .e) .e) .e) .e) .e) .e) .e) .e) .e) .e) .e) .e))⟩, (.tup [(.int .i64 (.ofNat 0)), (.int .i64 (.ofNat 0))])⟩
theorem mo7_7 [Val] [Bet] : MemoOK Tryz.prog me7_7 := memoB_ok (exe0_sound 100000) (by decide +kernel)
def me7_8 : ME := ⟨33, [(.agg [(.sl (some (0, 0)) 3 (.u 1)), (.bool false)])], ⟨1, (.n (.n (.n (.n (.n (.n (.n (.n (.n (.n (.n (.n (.n (.n (.n (.l (.cells [(.int .i64 (.ofNat 2)), (.int .i64 (.ofNat 2)), (.int .i64 (.ofNat 2))])) .e) .e) .e) .e) .e) .e) .e) .e) .e) .e) .e) .e) .e) .e) .e)⟩, (.tup [(.int .i64 (.ofNat 1)), (.int .i64 (.ofNat 0))])⟩
theorem mo7_8 [Val] [Bet] : MemoOK Tryz.prog me7_8 := memoB_ok (exe0_sound 100000) (by decide +kernel)
def me7_9 : ME := ⟨35, [(.agg [(.sl (some (0, 0)) 3 (.u 1)), (.bool false)]), (.sl (some (1, 0)) 3 (.k 3))], ⟨2, (.n (.n (.n (.n (.n (.n (.n (.n (.n (.n (.n (.n (.n (.n (.n (.l (.cells [(.int .i64 (.ofNat 2)), (.int .i64 (.ofNat 2)), (.int .i64 (.ofNat 2))])) .e) .e) .e) .e) .e) .e) .e) .e) .e) .e) .e) .e) .e) .e) (.n (.n (.n (.n (.n (.n (.n (.n (.n (.n (.n (.n (.n (.n (.l (.cells [(.int .i64 (.ofNat 1)), (.int .i64 (.ofNat 0)), (.int .i64 (.negSucc 0))])) .e) .e) .e) .e) .e) .e) .e) .e) .e) .e) .e) .e) .e) .e))⟩, (.tup [(.int .i64 (.ofNat 0)), (.int .i64 (.ofNat 0))])⟩
theorem mo7_9 [Val] [Bet] : MemoOK Tryz.prog me7_9 := memoB_ok (exe0_sound 100000) (by decide +kernel)
def me7_10 : ME := ⟨33, [(.agg [(.sl (some (0, 0)) 4 (.u 1)), (.bool false)])], ⟨1, (.n (.n (.n (.n (.n (.n (.n (.n (.n (.n (.n (.n (.n (.n (.n (.l (.cells [(.int .i64 (.ofNat 1)), (.int .i64 (.ofNat 1)), (.int .i64 (.ofNat 1)), (.int .i64 (.ofNat 1))])) .e) .e) .e) .e) .e) .e) .e) .e) .e) .e) .e) .e) .e) .e) .e)⟩, (.tup [(.int .i64 (.ofNat 2)), (.int .i64 (.ofNat 0))])⟩
theorem mo7_10 [Val] [Bet] : MemoOK Tryz.prog me7_10 := memoB_ok (exe0_sound 100000) (by decide +kernel)
def me7_11 : ME := ⟨35, [(.agg [(.sl (some (0, 0)) 4 (.u 1)), (.bool false)]), (.sl (some (1, 0)) 4 (.k 4))], ⟨2, (.n (.n (.n (.n (.n (.n (.n (.n (.n (.n (.n (.n (.n (.n (.n (.l (.cells [(.int .i64 (.ofNat 1)), (.int .i64 (.ofNat 1)), (.int .i64 (.ofNat 1)), (.int .i64 (.ofNat 1))])) .e) .e) .e) .e) .e) .e) .e) .e) .e) .e) .e) .e) .e) .e) (.n (.n (.n (.n (.n (.n (.n (.n (.n (.n (.n (.n (.n (.n (.l (.cells [(.int .i64 (.ofNat 1)), (.int .i64 (.ofNat 0)), (.int .i64 (.ofNat 0)), (.int .i64 (.negSucc 0))])) .e) .e) .e) .e) .e) .e) .e) .e) .e) .e) .e) .e) .e) .e))⟩, (.tup [(.int .i64 (.ofNat 1)), (.int .i64 (.ofNat 0))])⟩
theorem mo7_11 [Val] [Bet] : MemoOK Tryz.prog me7_11 := memoB_ok (exe0_sound 100000) (by decide +kernel)
def me7_12 : ME := ⟨35, [(.agg [(.sl (some (0, 0)) 4 (.u 1)), (.bool false)]), (.sl (some (1, 0)) 4 (.k 4))], ⟨2, (.n (.n (.n (.n (.n (.n (.n (.n (.n (.n (.n (.n (.n (.n (.n (.l (.cells [(.int .i64 (.ofNat 1)), (.int .i64 (.ofNat 1)), (.int .i64 (.ofNat 1)), (.int .i64 (.ofNat 1))])) .e) .e) .e) .e) .e) .e) .e) .e) .e) .e) .e) .e) .e) .e) (.n (.n (.n (.n (.n (.n (.n (.n (.n (.n (.n (.n (.n (.n (.l (.cells [(.int .i64 (.ofNat 1)), (.int .i64 (.ofNat 1)), (.int .i64 (.negSucc 0)), (.int .i64 (.negSucc 0))])) .e) .e) .e) .e) .e) .e) .e) .e) .e) .e) .e) .e) .e) .e))⟩, (.tup [(.int .i64 (.ofNat 1)), (.int .i64 (.ofNat 0))])⟩
theorem mo7_12 [Val] [Bet] : MemoOK Tryz.prog me7_12 := memoB_ok (exe0_sound 100000) (by decide +kernel)
def me7_13 : ME := ⟨33, [(.agg [(.sl (some (0, 0)) 4 (.u 1)), (.bool false)])], ⟨1, (.n (.n (.n (.n (.n (.n (.n (.n (.n (.n (.n (.n (.n (.n (.n (.l (.cells [(.int .i64 (.ofNat 2)), (.int .i64 (.ofNat 2)), (.int .i64 (.ofNat 2)), (.int .i64 (.ofNat 2))])) .e) .e) .e) .e) .e) .e) .e) .e) .e) .e) .e) .e) .e) .e) .e)⟩, (.tup [(.int .i64 (.ofNat 2)), (.int .i64 (.ofNat 0))])⟩
theorem mo7_13 [Val] [Bet] : MemoOK Tryz.prog me7_13 := memoB_ok (exe0_sound 100000) (by decide +kernel)
def me7_14 : ME := ⟨35, [(.agg [(.sl (some (0, 0)) 4 (.u 1)), (.bool false)]), (.sl (some (1, 0)) 4 (.k 4))], ⟨2, (.n (.n (.n (.n (.n (.n (.n (.n (.n (.n (.n (.n (.n (.n (.n (.l (.cells [(.int .i64 (.ofNat 2)), (.int .i64 (.ofNat 2)), (.int .i64 (.ofNat 2)), (.int .i64 (.ofNat 2))])) .e) .e) .e) .e) .e) .e) .e) .e) .e) .e) .e) .e) .e) .e) (.n (.n (.n (.n (.n (.n (.n (.n (.n (.n (.n (.n (.n (.n (.l (.cells [(.int .i64 (.ofNat 1)), (.int .i64 (.ofNat 0)), (.int .i64 (.ofNat 0)), (.int .i64 (.negSucc 0))])) .e) .e) .e) .e) .e) .e) .e) .e) .e) .e) .e) .e) .e) .e))⟩, (.tup [(.int .i64 (.ofNat 1)), (.int .i64 (.ofNat 0))])⟩
theorem mo7_14 [Val] [Bet] : MemoOK Tryz.prog me7_14 := memoB_ok (exe0_sound 100000) (by decide +kernel)
def me7_15 : ME := ⟨35, [(.agg [(.sl (some (0, 0)) 4 (.u 1)), (.bool false)]), (.sl (some (1, 0)) 4 (.k 4))], ⟨2, (.n (.n (.n (.n (.n (.n (.n (.n (.n (.n (.n (.n (.n (.n (.n (.l (.cells [(.int .i64 (.ofNat 2)), (.int .i64 (.ofNat 2)), (.int .i64 (.ofNat 2)), (.int .i64 (.ofNat 2))])) .e) .e) .e) .e) .e) .e) .e) .e) .e) .e) .e) .e) .e) .e) (.n (.n (.n (.n (.n (.n (.n (.n (.n (.n (.n (.n (.n (.n (.l (.cells [(.int .i64 (.ofNat 1)), (.int .i64 (.ofNat 1)), (.int .i64 (.negSucc 0)), (.int .i64 (.negSucc 0))])) .e) .e) .e) .e) .e) .e) .e) .e) .e) .e) .e) .e) .e) .e))⟩, (.tup [(.int .i64 (.ofNat 1)), (.int .i64 (.ofNat 0))])⟩
theorem mo7_15 [Val] [Bet] : MemoOK Tryz.prog me7_15 := memoB_ok (exe0_sound 100000) (by decide +kernel)
def me7_16 : ME := ⟨33, [(.agg [(.sl (some (0, 0)) 5 (.u 1)), (.bool false)])], ⟨1, (.n (.n (.n (.n (.n (.n (.n (.n (.n (.n (.n (.n (.n (.n (.n (.l (.cells [(.int .i64 (.ofNat 1)), (.int .i64 (.ofNat 1)), (.int .i64 (.ofNat 1)), (.int .i64 (.ofNat 1)), (.int .i64 (.ofNat 1))])) .e) .e) .e) .e) .e) .e) .e) .e) .e) .e) .e) .e) .e) .e) .e)⟩, (.tup [(.int .i64 (.ofNat 2)), (.int .i64 (.ofNat 0))])⟩
theorem mo7_16 [Val] [Bet] : MemoOK Tryz.prog me7_16 := memoB_ok (exe0_sound 100000) (by decide +kernel)
def me7_17 : ME := ⟨35, [(.agg [(.sl (some (0, 0)) 5 (.u 1)), (.bool false)]), (.sl (some (1, 0)) 5 (.k 5))], ⟨2, (.n (.n (.n (.n (.n (.n (.n (.n (.n (.n (.n (.n (.n (.n (.n (.l (.cells [(.int .i64 (.ofNat 1)), (.int .i64 (.ofNat 1)), (.int .i64 (.ofNat 1)), (.int .i64 (.ofNat 1)), (.int .i64 (.ofNat 1))])) .e) .e) .e) .e) .e) .e) .e) .e) .e) .e) .e) .e) .e) .e) (.n (.n (.n (.n (.n (.n (.n (.n (.n (.n (.n (.n (.n (.n (.l (.cells [(.int .i64 (.ofNat 1)), (.int .i64 (.ofNat 0)), (.int .i64 (.ofNat 0)), (.int .i64 (.ofNat 0)), (.int .i64 (.negSucc 0))])) .e) .e) .e) .e) .e) .e) .e) .e) .e) .e) .e) .e) .e) .e))⟩, (.tup [(.int .i64 (.ofNat 1)), (.int .i64 (.ofNat 0))])⟩
theorem mo7_17 [Val] [Bet] : MemoOK Tryz.prog me7_17 := memoB_ok (exe0_sound 100000) (by decide +kernel)
def me7_18 : ME := ⟨35, [(.agg [(.sl (some (0, 0)) 5 (.u 1)), (.bool false)]), (.sl (some (1, 0)) 5 (.k 5))], ⟨2, (.n (.n (.n (.n (.n (.n (.n (.n (.n (.n (.n (.n (.n (.n (.n (.l (.cells [(.int .i64 (.ofNat 1)), (.int .i64 (.ofNat 1)), (.int .i64 (.ofNat 1)), (.int .i64 (.ofNat 1)), (.int .i64 (.ofNat 1))])) .e) .e) .e) .e) .e) .e) .e) .e) .e) .e) .e) .e) .e) .e) (.n (.n (.n (.n (.n (.n (.n (.n (.n (.n (.n (.n (.n (.n (.l (.cells [(.int .i64 (.ofNat 1)), (.int .i64 (.ofNat 1)), (.int .i64 (.ofNat 0)), (.int .i64 (.negSucc 0)), (.int .i64 (.negSucc 0))])) .e) .e) .e) .e) .e) .e) .e) .e) .e) .e) .e) .e) .e) .e))⟩, (.tup [(.int .i64 (.ofNat 1)), (.int .i64 (.ofNat 0))])⟩
theorem mo7_18 [Val] [Bet] : MemoOK Tryz.prog me7_18 := memoB_ok (exe0_sound 100000) (by decide +kernel)
def me7_19 : ME := ⟨33, [(.agg [(.sl (some (0, 0)) 5 (.u 1)), (.bool false)])], ⟨1, (.n (.n (.n (.n (.n (.n (.n (.n (.n (.n (.n (.n (.n (.n (.n (.l (.cells [(.int .i64 (.ofNat 2)), (.int .i64 (.ofNat 2)), (.int .i64 (.ofNat 2)), (.int .i64 (.ofNat 2)), (.int .i64 (.ofNat 2))])) .e) .e) .e) .e) .e) .e) .e) .e) .e) .e) .e) .e) .e) .e) .e)⟩, (.tup [(.int .i64 (.ofNat 2)), (.int .i64 (.ofNat 0))])⟩
theorem mo7_19 [Val] [Bet] : MemoOK Tryz.prog me7_19 := memoB_ok (exe0_sound 100000) (by decide +kernel)
def me7_20 : ME := ⟨35, [(.agg [(.sl (some (0, 0)) 5 (.u 1)), (.bool false)]), (.sl (some (1, 0)) 5 (.k 5))], ⟨2, (.n (.n (.n (.n (.n (.n (.n (.n (.n (.n (.n (.n (.n (.n (.n (.l (.cells [(.int .i64 (.ofNat 2)), (.int .i64 (.ofNat 2)), (.int .i64 (.ofNat 2)), (.int .i64 (.ofNat 2)), (.int .i64 (.ofNat 2))])) .e) .e) .e) .e) .e) .e) .e) .e) .e) .e) .e) .e) .e) .e) (.n (.n (.n (.n (.n (.n (.n (.n (.n (.n (.n (.n (.n (.n (.l (.cells [(.int .i64 (.ofNat 1)), (.int .i64 (.ofNat 0)), (.int .i64 (.ofNat 0)), (.int .i64 (.ofNat 0)), (.int .i64 (.negSucc 0))])) .e) .e) .e) .e) .e) .e) .e) .e) .e) .e) .e) .e) .e) .e))⟩, (.tup [(.int .i64 (.ofNat 1)), (.int .i64 (.ofNat 0))])⟩
theorem mo7_20 [Val] [Bet] : MemoOK Tryz.prog me7_20 := memoB_ok (exe0_sound 100000) (by decide +kernel)
def me7_21 : ME := ⟨35, [(.agg [(.sl (some (0, 0)) 5 (.u 1)), (.bool false)]), (.sl (some (1, 0)) 5 (.k 5))], ⟨2, (.n (.n (.n (.n (.n (.n (.n (.n (.n (.n (.n (.n (.n (.n (.n (.l (.cells [(.int .i64 (.ofNat 2)), (.int .i64 (.ofNat 2)), (.int .i64 (.ofNat 2)), (.int .i64 (.ofNat 2)), (.int .i64 (.ofNat 2))])) .e) .e) .e) .e) .e) .e) .e) .e) .e) .e) .e) .e) .e) .e) (.n (.n (.n (.n (.n (.n (.n (.n (.n (.n (.n (.n (.n (.n (.l (.cells [(.int .i64 (.ofNat 1)), (.int .i64 (.ofNat 1)), (.int .i64 (.ofNat 0)), (.int .i64 (.negSucc 0)), (.int .i64 (.negSucc 0))])) .e) .e) .e) .e) .e) .e) .e) .e) .e) .e) .e) .e) .e) .e))⟩, (.tup [(.int .i64 (.ofNat 1)), (.int .i64 (.ofNat 0))])⟩
theorem mo7_21 [Val] [Bet] : MemoOK Tryz.prog me7_21 := memoB_ok (exe0_sound 100000) (by decide +kernel)
def mes7 : List ME := [me7_0, me7_1, me7_2, me7_3, me7_4, me7_5, me7_6, me7_7, me7_8, me7_9, me7_10, me7_11, me7_12, me7_13, me7_14, me7_15, me7_16, me7_17, me7_18, me7_19, me7_20, me7_21]
theorem mos7 [Val] [Bet] : ∀ e ∈ mes7, MemoOK Tryz.prog e := by
  intro e he
  simp only [mes7, List.mem_cons, List.not_mem_nil, or_false] at he
  rcases he with rfl | rfl | rfl | rfl | rfl | rfl | rfl | rfl | rfl | rfl | rfl | rfl | rfl | rfl | rfl | rfl | rfl | rfl | rfl | rfl | rfl | rfl
  · exact mo7_0
  · exact mo7_1
  · exact mo7_2
  · exact mo7_3
  · exact mo7_4
  · exact mo7_5
  · exact mo7_6
  · exact mo7_7
  · exact mo7_8
  · exact mo7_9
  · exact mo7_10
  · exact mo7_11
  · exact mo7_12
  · exact mo7_13
  · exact mo7_14
  · exact mo7_15
  · exact mo7_16
  · exact mo7_17
  · exact mo7_18
  · exact mo7_19
  · exact mo7_20
  · exact mo7_21
end
end Go.Proofs.YtibmpjhffeinoaaGreat.Kx
