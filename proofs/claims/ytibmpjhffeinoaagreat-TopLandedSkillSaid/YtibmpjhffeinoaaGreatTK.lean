/-
  Facts on the types of keys. Printed by gen_tk.py.
-/
import Derived.Test.YtibmpjhffeinoaaGreatTF
namespace Go.Proofs.YtibmpjhffeinoaaGreat.Kx
open Go
variable [Val] [Bet]

omit [Val] [Bet] in
theorem laidOut0 : laidOutB Tryz.prog = true := by kernel_rfl
omit [Val] [Bet] in
theorem cells2 : Tryz.prog.cellsOf 2 = 1 := by kernel_rfl
omit [Val] [Bet] in
theorem cells3 : Tryz.prog.cellsOf 3 = 1 := by kernel_rfl
omit [Val] [Bet] in
theorem kl39 : KL Tryz.prog (Tryz.prog.types.size + 1) 39 2 := by
  rw [Tryz.types_size]
  exact kl_struct Tryz.underlying39 (by kernel_rfl) (by kernel_rfl) (fun f hf => by
    simp only [List.mem_cons, List.not_mem_nil, or_false] at hf
    rcases hf with rfl | rfl
    · have hc : Tryz.prog.cellsOf 2 = 1 := by kernel_rfl
      exact ⟨by rw [hc]; exact kl_int Tryz.underlying2, by rw [hc]; decide⟩
    · have hc : Tryz.prog.cellsOf 2 = 1 := by kernel_rfl
      exact ⟨by rw [hc]; exact kl_int Tryz.underlying2, by rw [hc]; decide⟩)
omit [Val] [Bet] in
theorem ko39 : KeyOK Tryz.prog 39 2 := keyOK_of laidOut0 (m := 5) (by omega) (of_decide_eq_true (by kernel_rfl)) (by kernel_rfl) (by kernel_rfl) (by kernel_rfl) (by kernel_rfl) (by kernel_rfl) kl39
omit [Val] [Bet] in
theorem kl52 : KL Tryz.prog (Tryz.prog.types.size + 1) 52 2 := by
  rw [Tryz.types_size]
  exact kl_arr (m := 1) Tryz.underlying52 (by kernel_rfl) (by kernel_rfl) rfl (kl_int Tryz.underlying3)
omit [Val] [Bet] in
theorem ko52 : KeyOK Tryz.prog 52 2 := keyOK_of laidOut0 (m := 5) (by omega) (of_decide_eq_true (by kernel_rfl)) (by kernel_rfl) (by kernel_rfl) (by kernel_rfl) (by kernel_rfl) (by kernel_rfl) kl52
omit [Val] [Bet] in
theorem kl115 : KL Tryz.prog (Tryz.prog.types.size + 1) 115 9 := by
  rw [Tryz.types_size]
  exact kl_arr (m := 1) Tryz.underlying115 (by kernel_rfl) (by kernel_rfl) rfl (kl_int Tryz.underlying2)
omit [Val] [Bet] in
theorem ko115 : KeyOK Tryz.prog 115 9 := keyOK_of laidOut0 (m := 5) (by omega) (of_decide_eq_true (by kernel_rfl)) (by kernel_rfl) (by kernel_rfl) (by kernel_rfl) (by kernel_rfl) (by kernel_rfl) kl115
omit [Val] [Bet] in
theorem kl133 : KL Tryz.prog (Tryz.prog.types.size + 1) 133 14 := by
  rw [Tryz.types_size]
  exact kl_arr (m := 1) Tryz.underlying133 (by kernel_rfl) (by kernel_rfl) rfl (kl_int Tryz.underlying3)
omit [Val] [Bet] in
theorem ko133 : KeyOK Tryz.prog 133 14 := keyOK_of laidOut0 (m := 5) (by omega) (of_decide_eq_true (by kernel_rfl)) (by kernel_rfl) (by kernel_rfl) (by kernel_rfl) (by kernel_rfl) (by kernel_rfl) kl133
omit [Val] [Bet] in
theorem kl218 : KL Tryz.prog (Tryz.prog.types.size + 1) 218 2 := by
  rw [Tryz.types_size]
  exact kl_struct Tryz.underlying218 (by kernel_rfl) (by kernel_rfl) (fun f hf => by
    simp only [List.mem_cons, List.not_mem_nil, or_false] at hf
    rcases hf with rfl | rfl
    · have hc : Tryz.prog.cellsOf 3 = 1 := by kernel_rfl
      exact ⟨by rw [hc]; exact kl_int Tryz.underlying3, by rw [hc]; decide⟩
    · have hc : Tryz.prog.cellsOf 3 = 1 := by kernel_rfl
      exact ⟨by rw [hc]; exact kl_int Tryz.underlying3, by rw [hc]; decide⟩)
omit [Val] [Bet] in
theorem ko218 : KeyOK Tryz.prog 218 2 := keyOK_of laidOut0 (m := 5) (by omega) (of_decide_eq_true (by kernel_rfl)) (by kernel_rfl) (by kernel_rfl) (by kernel_rfl) (by kernel_rfl) (by kernel_rfl) kl218
omit [Val] [Bet] in
theorem kl225 : KL Tryz.prog (Tryz.prog.types.size + 1) 225 2 := by
  rw [Tryz.types_size]
  exact kl_struct Tryz.underlying225 (by kernel_rfl) (by kernel_rfl) (fun f hf => by
    simp only [List.mem_cons, List.not_mem_nil, or_false] at hf
    rcases hf with rfl | rfl
    · have hc : Tryz.prog.cellsOf 3 = 1 := by kernel_rfl
      exact ⟨by rw [hc]; exact kl_int Tryz.underlying3, by rw [hc]; decide⟩
    · have hc : Tryz.prog.cellsOf 3 = 1 := by kernel_rfl
      exact ⟨by rw [hc]; exact kl_int Tryz.underlying3, by rw [hc]; decide⟩)
omit [Val] [Bet] in
theorem ko225 : KeyOK Tryz.prog 225 2 := keyOK_of laidOut0 (m := 5) (by omega) (of_decide_eq_true (by kernel_rfl)) (by kernel_rfl) (by kernel_rfl) (by kernel_rfl) (by kernel_rfl) (by kernel_rfl) kl225
omit [Val] [Bet] in
theorem kl373 : KL Tryz.prog (Tryz.prog.types.size + 1) 373 4 := by
  rw [Tryz.types_size]
  exact kl_arr (m := 1) Tryz.underlying373 (by kernel_rfl) (by kernel_rfl) rfl (kl_int Tryz.underlying2)
omit [Val] [Bet] in
theorem ko373 : KeyOK Tryz.prog 373 4 := keyOK_of laidOut0 (m := 5) (by omega) (of_decide_eq_true (by kernel_rfl)) (by kernel_rfl) (by kernel_rfl) (by kernel_rfl) (by kernel_rfl) (by kernel_rfl) kl373
omit [Val] [Bet] in
theorem kl381 : KL Tryz.prog (Tryz.prog.types.size + 1) 381 2 := by
  rw [Tryz.types_size]
  exact kl_struct Tryz.underlying381 (by kernel_rfl) (by kernel_rfl) (fun f hf => by
    simp only [List.mem_cons, List.not_mem_nil, or_false] at hf
    rcases hf with rfl | rfl
    · have hc : Tryz.prog.cellsOf 3 = 1 := by kernel_rfl
      exact ⟨by rw [hc]; exact kl_int Tryz.underlying3, by rw [hc]; decide⟩
    · have hc : Tryz.prog.cellsOf 3 = 1 := by kernel_rfl
      exact ⟨by rw [hc]; exact kl_int Tryz.underlying3, by rw [hc]; decide⟩)
omit [Val] [Bet] in
theorem ko381 : KeyOK Tryz.prog 381 2 := keyOK_of laidOut0 (m := 5) (by omega) (of_decide_eq_true (by kernel_rfl)) (by kernel_rfl) (by kernel_rfl) (by kernel_rfl) (by kernel_rfl) (by kernel_rfl) kl381
omit [Val] [Bet] in
theorem eqs_all : AllT (KeyOK Tryz.prog) eqs := ⟨⟨⟨trivial, ⟨⟨trivial, ⟨trivial, ⟨⟨⟨ko52, trivial⟩, trivial⟩, trivial⟩⟩⟩, trivial⟩⟩, ⟨⟨trivial, ⟨trivial, ⟨⟨trivial, ⟨trivial, ⟨ko218, trivial⟩⟩⟩, trivial⟩⟩⟩, trivial⟩⟩, ⟨⟨⟨⟨⟨trivial, ⟨trivial, ⟨trivial, ⟨ko225, trivial⟩⟩⟩⟩, trivial⟩, trivial⟩, ⟨⟨⟨⟨⟨trivial, ⟨ko133, trivial⟩⟩, trivial⟩, trivial⟩, ⟨trivial, ⟨trivial, ⟨⟨trivial, ko373⟩, trivial⟩⟩⟩⟩, ⟨trivial, ⟨trivial, ⟨trivial, ⟨⟨trivial, ko381⟩, trivial⟩⟩⟩⟩⟩⟩, ⟨⟨⟨trivial, ⟨trivial, ⟨trivial, ⟨⟨ko115, trivial⟩, trivial⟩⟩⟩⟩, trivial⟩, ⟨⟨⟨trivial, ⟨⟨⟨ko39, trivial⟩, trivial⟩, trivial⟩⟩, trivial⟩, trivial⟩⟩⟩⟩
omit [Val] [Bet] in
theorem keysOK : KeysOK env := fun _t _n h => AllT.get eqs_all h
end Go.Proofs.YtibmpjhffeinoaaGreat.Kx
