/-
  A closed function, in segments. Printed by gen_sw.py.
-/
import Derived.Test.YtibmpjhffeinoaaGreatW82a
import Derived.Test.YtibmpjhffeinoaaGreatW82b
import Derived.Test.YtibmpjhffeinoaaGreatW82c
namespace Go.Proofs.YtibmpjhffeinoaaGreat.Kx
open Go Go.RowKit

noncomputable section
theorem w82_c0 : dropSeq 0 (codeOf Tryz.f82) = chain (takeL 2 (dropSeq 0 (codeOf Tryz.f82))) (dropSeq 2 (codeOf Tryz.f82)) := by kernel_rfl
theorem w82_c1 : dropSeq 2 (codeOf Tryz.f82) = chain (takeL 2 (dropSeq 2 (codeOf Tryz.f82))) (dropSeq 4 (codeOf Tryz.f82)) := by kernel_rfl
theorem w82_c2 : dropSeq 4 (codeOf Tryz.f82) = chain (takeL 2 (dropSeq 4 (codeOf Tryz.f82))) (dropSeq 6 (codeOf Tryz.f82)) := by kernel_rfl
theorem w82_c3 : dropSeq 6 (codeOf Tryz.f82) = chain (takeL 2 (dropSeq 6 (codeOf Tryz.f82))) (dropSeq 8 (codeOf Tryz.f82)) := by kernel_rfl
theorem w82_c4 : dropSeq 8 (codeOf Tryz.f82) = chain (takeL 2 (dropSeq 8 (codeOf Tryz.f82))) (dropSeq 10 (codeOf Tryz.f82)) := by kernel_rfl
theorem w82_c5 : dropSeq 10 (codeOf Tryz.f82) = chain (takeL 2 (dropSeq 10 (codeOf Tryz.f82))) (dropSeq 12 (codeOf Tryz.f82)) := by kernel_rfl
theorem w82_c6 : dropSeq 12 (codeOf Tryz.f82) = chain (takeL 1 (dropSeq 12 (codeOf Tryz.f82))) (dropSeq 13 (codeOf Tryz.f82)) := by kernel_rfl
theorem w82_c7 : dropSeq 13 (codeOf Tryz.f82) = chain (takeL 1 (dropSeq 13 (codeOf Tryz.f82))) (dropSeq 14 (codeOf Tryz.f82)) := by kernel_rfl
theorem w82_c8 : dropSeq 14 (codeOf Tryz.f82) = chain (takeL 2 (dropSeq 14 (codeOf Tryz.f82))) (dropSeq 16 (codeOf Tryz.f82)) := by kernel_rfl
theorem w82_c9 : dropSeq 16 (codeOf Tryz.f82) = chain (takeL 2 (dropSeq 16 (codeOf Tryz.f82))) (dropSeq 18 (codeOf Tryz.f82)) := by kernel_rfl
theorem w82_c10 : dropSeq 18 (codeOf Tryz.f82) = chain (takeL 2 (dropSeq 18 (codeOf Tryz.f82))) (dropSeq 20 (codeOf Tryz.f82)) := by kernel_rfl
theorem w82_end : dropSeq 20 (codeOf Tryz.f82) = .ret := by kernel_rfl
theorem yes82 : YesFn Tryz.prog 82 := by
  refine ⟨⟨_, _, Tryz.func82, (by rfl : Tryz.f82.body = some (codeOf Tryz.f82)), by kernel_rfl⟩, fun m w => ?_⟩
  letI : Val := val0
  letI : Bet := bet0
  refine callsIn_fin (t := 0) (args := []) (us := []) (fr0 := w82_f0) Tryz.func82 (c := codeOf Tryz.f82) (by rfl) (by rfl) .nil (by rfl) m w fun a hi => ?_
  rw [show codeOf Tryz.f82 = dropSeq 0 (codeOf Tryz.f82) from rfl]
  have h0 : InSt w w82_f0 w82_h0 a w := hi
  rw [w82_c0]
  refine seg_ren (exeY_sound (fun f hf => by cases hf) mos82 100000) _ _ _ _ _ w82_s0 h0 fun a1 w1 h1 => ?_
  rw [w82_c1]
  refine seg_ren (exeY_sound (fun f hf => by cases hf) mos82 100000) _ _ _ _ _ w82_s1 h1 fun a2 w2 h2 => ?_
  rw [w82_c2]
  refine seg_ren (exeY_sound (fun f hf => by cases hf) mos82 100000) _ _ _ _ _ w82_s2 h2 fun a3 w3 h3 => ?_
  rw [w82_c3]
  refine seg_ren (exeY_sound (fun f hf => by cases hf) mos82 100000) _ _ _ _ _ w82_s3 h3 fun a4 w4 h4 => ?_
  rw [w82_c4]
  refine seg_ren (exeY_sound (fun f hf => by cases hf) mos82 100000) _ _ _ _ _ w82_s4 h4 fun a5 w5 h5 => ?_
  rw [w82_c5]
  refine seg_ren (exeY_sound (fun f hf => by cases hf) mos82 100000) _ _ _ _ _ w82_s5 h5 fun a6 w6 h6 => ?_
  rw [w82_c6]
  refine seg_ren (exeY_sound (fun f hf => by cases hf) mos82 100000) _ _ _ _ _ w82_s6 h6 fun a7 w7 h7 => ?_
  rw [w82_c7]
  refine seg_ren (exeY_sound (fun f hf => by cases hf) mos82 100000) _ _ _ _ _ w82_s7 h7 fun a8 w8 h8 => ?_
  rw [w82_c8]
  refine seg_ren (exeY_sound (fun f hf => by cases hf) mos82 100000) _ _ _ _ _ w82_s8 h8 fun a9 w9 h9 => ?_
  rw [w82_c9]
  refine seg_ren (exeY_sound (fun f hf => by cases hf) mos82 100000) _ _ _ _ _ w82_s9 h9 fun a10 w10 h10 => ?_
  rw [w82_c10]
  refine seg_ren (exeY_sound (fun f hf => by cases hf) mos82 100000) _ _ _ _ _ w82_s10 h10 fun a11 w11 h11 => ?_
  rw [w82_end]
  exact wpIn_ret (h11.fin (by rfl) (.inr rfl))
end
end Go.Proofs.YtibmpjhffeinoaaGreat.Kx
