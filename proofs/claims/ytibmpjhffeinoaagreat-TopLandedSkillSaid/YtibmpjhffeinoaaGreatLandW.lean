/-
  TopLandedSkill: from the wheel to skill: for every machine and every number the law returns true, and its arguments read as before. No condition.
-/
import Derived.Test.YtibmpjhffeinoaaGreatNz
import Derived.Test.YtibmpjhffeinoaaGreatY3
import Derived.Test.YtibmpjhffeinoaaGreatJL
namespace Go.Proofs.YtibmpjhffeinoaaGreat
open Go.ChangeShapes Go.WideShapes Go.ChangeAt Go.RowKit

theorem works_yes (w' : World) : Calls Tryz.prog 11 #[] w' fun e w'' => e = .returned (.bool true) ∧ Below w'.heap.size w' w'' := CallsIn.calls (Kx.yes11.2 0 w') fun k => room_wide k

set_option maxRecDepth 100000 in
theorem TopLandedSkill_lifted (os : Go.Os) (started : os.Started) (H : Type) (enc : TypeId × Value → H) :
    ReturnsInHanded {} Tryz.checked os 3 .any (Rows.topLandedSkillSpec.pre6 enc Tryz.prog Tryz.f3 Rows.topLandedSkillRow.domain false) (Rows.topLandedSkillSpec.post enc Tryz.prog Tryz.f3 false true false false) := by
  refine returnsInHanded_of_change (C := Tryz.checked) row_own started (by kernel_rfl) Tryz.func3
    (ChangeSpec.witness6 (enc := enc) (C := Tryz.checked) false ⟨#[], #[.agg #[.int .i64 0, .slice none 0 0, .slice none 0 0], .int .u8 0], []⟩ 8 (by kernel_rfl) (by kernel_rfl) (by kernel_rfl) (by kernel_rfl)) ?_
  intro W base args ds gs before hval0 hW _ _
  have hval : ∀ (j : Nat) t v, Tryz.f3.params[j]? = some t → args[j]? = some v → Value.okWide Tryz.prog W .any base t v := hval0
  have hW' := hW
  obtain ⟨p, q, hA0, hV, rfl, _, _⟩ := hW
  have hA : DataW.TrodAll enc Tryz.prog W 0 (fun _ => true) true Tryz.f3.params.toList args.toList ds p := hA0
  rw [Tryz.params3] at hA hval
  obtain ⟨v0, v1, d0, d1, p0, p1, rfl, rfl, rfl, h0, h1⟩ := trodAll_two hA
  obtain ⟨rfl, rfl⟩ := trodVars_none hV
  clear hA0 hval0
  simp only [List.append_nil] at hW'
  have hlt : ∀ x ∈ (p0 ++ p1), x.block < W.heap.size := fun x hx => by simpa using hW'.lt x hx
  have a0 := fun W' (hb : Below W.heap.size W W') => row_stays (t := 25) (by kernel_rfl) (of_decide_eq_true (by kernel_rfl)) h0 (fun x hx => hlt x (by simp [hx])) hb
  have a1 := fun W' (hb : Below W.heap.size W W') => row_stays (t := 5) (by kernel_rfl) (of_decide_eq_true (by kernel_rfl)) h1 (fun x hx => hlt x (by simp [hx])) hb
  obtain ⟨S, AN, n, cN, AP, np, cP, Ls, ys, rfl, hmv, hri⟩ := row_wheel (hval 0 25 v0 rfl rfl) h0
  obtain ⟨x1, rfl, _, _, wx1⟩ := open_int (P := Tryz.prog) (k := .u8) (t := 5) (by kernel_rfl) (hval 1 5 v1 rfl rfl) h1
  refine (landed_all works_yes hmv hri x1 (u8_bd wx1)).mono fun e W' ⟨he, hb⟩ => ?_
  subst he
  exact ⟨_, rfl, _, _, _, [], (p0 ++ p1), [], hW', trodAll_mk1 (shut_bool Tryz.underlying4 true), trodAll_mk2 (a0 _ hb) (a1 _ hb), rfl, hb.frame _, fun h => by cases h⟩
theorem TopLandedSkill_holds : Rows.TopLandedSkillSaid :=
  OpenClaim.holds_of_wide 3 Tryz.f3 rfl rfl rfl rfl rfl rfl rfl ⟨rfl, rfl, rfl, rfl, rfl⟩ rfl rfl rfl rfl rfl j3_n Tryz.func3 j3_all
    (of_decide_eq_true (by as_aux_lemma => kernel_rfl)) (by unfold Func.isWrapper; first | (rw [if_pos (by decide +kernel)]; kernel_rfl) | (rw [if_neg (by decide +kernel)]; exact ⟨rfl, rfl⟩))
    (fun os started H enc _ => TopLandedSkill_lifted os started H enc)
#print axioms TopLandedSkill_holds
end Go.Proofs.YtibmpjhffeinoaaGreat
