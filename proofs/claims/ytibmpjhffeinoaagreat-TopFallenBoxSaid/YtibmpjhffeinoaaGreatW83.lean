/-
  A closed function, in segments. Printed by gen_sw.py.
-/
import Derived.Test.YtibmpjhffeinoaaGreatW83a
import Derived.Test.YtibmpjhffeinoaaGreatW83b
import Derived.Test.YtibmpjhffeinoaaGreatW83c
import Derived.Test.YtibmpjhffeinoaaGreatW83d
namespace Go.Proofs.YtibmpjhffeinoaaGreat.Kx
open Go Go.RowKit

noncomputable section
theorem w83_c0 : dropSeq 0 (codeOf Tryz.f83) = chain (takeL 2 (dropSeq 0 (codeOf Tryz.f83))) (dropSeq 2 (codeOf Tryz.f83)) := by kernel_rfl
theorem w83_c1 : dropSeq 2 (codeOf Tryz.f83) = chain (takeL 2 (dropSeq 2 (codeOf Tryz.f83))) (dropSeq 4 (codeOf Tryz.f83)) := by kernel_rfl
theorem w83_c2 : dropSeq 4 (codeOf Tryz.f83) = chain (takeL 2 (dropSeq 4 (codeOf Tryz.f83))) (dropSeq 6 (codeOf Tryz.f83)) := by kernel_rfl
theorem w83_c3 : dropSeq 6 (codeOf Tryz.f83) = chain (takeL 2 (dropSeq 6 (codeOf Tryz.f83))) (dropSeq 8 (codeOf Tryz.f83)) := by kernel_rfl
theorem w83_c4 : dropSeq 8 (codeOf Tryz.f83) = chain (takeL 2 (dropSeq 8 (codeOf Tryz.f83))) (dropSeq 10 (codeOf Tryz.f83)) := by kernel_rfl
theorem w83_c5 : dropSeq 10 (codeOf Tryz.f83) = chain (takeL 2 (dropSeq 10 (codeOf Tryz.f83))) (dropSeq 12 (codeOf Tryz.f83)) := by kernel_rfl
theorem w83_c6 : dropSeq 12 (codeOf Tryz.f83) = chain (takeL 2 (dropSeq 12 (codeOf Tryz.f83))) (dropSeq 14 (codeOf Tryz.f83)) := by kernel_rfl
theorem w83_c7 : dropSeq 14 (codeOf Tryz.f83) = chain (takeL 2 (dropSeq 14 (codeOf Tryz.f83))) (dropSeq 16 (codeOf Tryz.f83)) := by kernel_rfl
theorem w83_c8 : dropSeq 16 (codeOf Tryz.f83) = chain (takeL 2 (dropSeq 16 (codeOf Tryz.f83))) (dropSeq 18 (codeOf Tryz.f83)) := by kernel_rfl
theorem w83_c9 : dropSeq 18 (codeOf Tryz.f83) = chain (takeL 1 (dropSeq 18 (codeOf Tryz.f83))) (dropSeq 19 (codeOf Tryz.f83)) := by kernel_rfl
theorem w83_end : dropSeq 19 (codeOf Tryz.f83) = .ret := by kernel_rfl
theorem yes83 : YesFn Tryz.prog 83 := by
  refine ⟨⟨_, _, Tryz.func83, (by rfl : Tryz.f83.body = some (codeOf Tryz.f83)), by kernel_rfl⟩, fun m w => ?_⟩
  letI : Val := val0
  letI : Bet := bet0
  refine callsIn_fin (t := 0) (args := []) (us := []) (fr0 := w83_f0) Tryz.func83 (c := codeOf Tryz.f83) (by rfl) (by rfl) .nil (by rfl) m w fun a hi => ?_
  rw [show codeOf Tryz.f83 = dropSeq 0 (codeOf Tryz.f83) from rfl]
  have h0 : InSt w w83_f0 w83_h0 a w := hi
  rw [w83_c0]
  refine seg_ren (exeY_sound (fun f hf => by cases hf) mos83 100000) _ _ _ _ _ w83_s0 h0 fun a1 w1 h1 => ?_
  rw [w83_c1]
  refine seg_ren (exeY_sound (fun f hf => by cases hf) mos83 100000) _ _ _ _ _ w83_s1 h1 fun a2 w2 h2 => ?_
  rw [w83_c2]
  refine seg_ren (exeY_sound (fun f hf => by cases hf) mos83 100000) _ _ _ _ _ w83_s2 h2 fun a3 w3 h3 => ?_
  rw [w83_c3]
  refine seg_ren (exeY_sound (fun f hf => by cases hf) mos83 100000) _ _ _ _ _ w83_s3 h3 fun a4 w4 h4 => ?_
  rw [w83_c4]
  refine seg_ren (exeY_sound (fun f hf => by cases hf) mos83 100000) _ _ _ _ _ w83_s4 h4 fun a5 w5 h5 => ?_
  rw [w83_c5]
  refine seg_ren (exeY_sound (fun f hf => by cases hf) mos83 100000) _ _ _ _ _ w83_s5 h5 fun a6 w6 h6 => ?_
  rw [w83_c6]
  refine seg_ren (exeY_sound (fun f hf => by cases hf) mos83 100000) _ _ _ _ _ w83_s6 h6 fun a7 w7 h7 => ?_
  rw [w83_c7]
  refine seg_ren (exeY_sound (fun f hf => by cases hf) mos83 100000) _ _ _ _ _ w83_s7 h7 fun a8 w8 h8 => ?_
  rw [w83_c8]
  refine seg_ren (exeY_sound (fun f hf => by cases hf) mos83 100000) _ _ _ _ _ w83_s8 h8 fun a9 w9 h9 => ?_
  rw [w83_c9]
  refine seg_ren (exeY_sound (fun f hf => by cases hf) mos83 100000) _ _ _ _ _ w83_s9 h9 fun a10 w10 h10 => ?_
  rw [w83_end]
  exact wpIn_ret (h10.fin (by rfl) (.inr rfl))
end
end Go.Proofs.YtibmpjhffeinoaaGreat.Kx
