/-
  TopWeighedSlug: from skill to slugs: for every number of coppers, and either kind of slug, the law returns true, and its arguments read as before. No condition.
-/
import Derived.Test.YtibmpjhffeinoaaGreatWeiA
import Derived.Test.YtibmpjhffeinoaaGreatJW
namespace Go.Proofs.YtibmpjhffeinoaaGreat
open Go.ChangeShapes Go.WideShapes Go.ChangeAt Go.RowKit

set_option maxRecDepth 100000 in
theorem TopWeighedSlug_lifted (os : Go.Os) (started : os.Started) (H : Type) (enc : TypeId × Value → H) :
    ReturnsInHanded {} Tryz.checked os 7 .any (Rows.topWeighedSlugSpec.pre6 enc Tryz.prog Tryz.f7 Rows.topWeighedSlugRow.domain false) (Rows.topWeighedSlugSpec.post enc Tryz.prog Tryz.f7 false true false false) := by
  refine returnsInHanded_of_change (C := Tryz.checked) row_own started (by kernel_rfl) Tryz.func7
    (ChangeSpec.witness6 (enc := enc) (C := Tryz.checked) false ⟨#[], #[.int .u8 0, .bool false], []⟩ 8 (by kernel_rfl) (by kernel_rfl) (by kernel_rfl) (by kernel_rfl)) ?_
  intro W base args ds gs before hval0 hW _ _
  have hval : ∀ (j : Nat) t v, Tryz.f7.params[j]? = some t → args[j]? = some v → Value.okWide Tryz.prog W .any base t v := hval0
  have hW' := hW
  obtain ⟨p, q, hA0, hV, rfl, _, _⟩ := hW
  have hA : DataW.TrodAll enc Tryz.prog W 0 (fun _ => true) true Tryz.f7.params.toList args.toList ds p := hA0
  rw [Tryz.params7] at hA hval
  obtain ⟨v0, v1, d0, d1, p0, p1, rfl, rfl, rfl, h0, h1⟩ := trodAll_two hA
  obtain ⟨rfl, rfl⟩ := trodVars_none hV
  clear hA0 hval0
  simp only [List.append_nil] at hW'
  have hlt : ∀ x ∈ (p0 ++ p1), x.block < W.heap.size := fun x hx => by simpa using hW'.lt x hx
  have a0 := fun W' (hb : Below W.heap.size W W') => row_stays (t := 5) (by kernel_rfl) (of_decide_eq_true (by kernel_rfl)) h0 (fun x hx => hlt x (by simp [hx])) hb
  have a1 := fun W' (hb : Below W.heap.size W W') => row_stays (t := 4) (by kernel_rfl) (of_decide_eq_true (by kernel_rfl)) h1 (fun x hx => hlt x (by simp [hx])) hb
  obtain ⟨x0, rfl, _, _, wx0⟩ := open_int (P := Tryz.prog) (k := .u8) (t := 5) (by kernel_rfl) (hval 0 5 v0 rfl rfl) h0
  obtain ⟨x1, rfl, _, _⟩ := open_bool (P := Tryz.prog) (t := 4) (by kernel_rfl) (hval 1 4 v1 rfl rfl) h1
  refine (Kx.wWeighed x0 x1 (u8_bd wx0) W).mono fun e W' ⟨he, hb⟩ => ?_
  subst he
  exact ⟨_, rfl, _, _, _, [], (p0 ++ p1), [], hW', trodAll_mk1 (shut_bool Tryz.underlying4 true), trodAll_mk2 (a0 _ hb) (a1 _ hb), rfl, hb.frame _, fun h => by cases h⟩
theorem TopWeighedSlug_holds : Rows.TopWeighedSlugSaid :=
  OpenClaim.holds_of_wide 7 Tryz.f7 rfl rfl rfl rfl rfl rfl rfl ⟨rfl, rfl, rfl, rfl, rfl⟩ rfl rfl rfl rfl rfl j7_n Tryz.func7 j7_all
    (of_decide_eq_true (by as_aux_lemma => kernel_rfl)) (by unfold Func.isWrapper; first | (rw [if_pos (by decide +kernel)]; kernel_rfl) | (rw [if_neg (by decide +kernel)]; exact ⟨rfl, rfl⟩))
    (fun os started H enc _ => TopWeighedSlug_lifted os started H enc)
#print axioms TopWeighedSlug_holds
end Go.Proofs.YtibmpjhffeinoaaGreat
