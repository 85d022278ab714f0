/-
  RoundMore: with one stop less, at an end of the pier, no shortest round is longer, and a given round that was in time still is, without it; with a greater To no fewer rounds are in time: for every pier, every round by numbers, either end, every stop and every number; no condition.
-/
import Derived.Test.YtaekjnjignlmoaaWorks
import Derived.Test.YtaekjnjignlmoaaRowP
import Derived.Test.YtaekjnjignlmoaaMoreA
import Derived.Test.YtaekjnjignlmoaaMoreB
import Derived.Test.YtaekjnjignlmoaaMoreC
namespace Go.Proofs.Ytaekjnjignlmoaa
open Go.Shelf Go.ChangeShapes Go.WideShapes Go.ChangeAt Go.RowKit

theorem wMore (b : Int) (A : Option Addr) (n c : Nat) (ps : List (Int × Int)) (Y : Option Addr) (my cy : Nat) (bs : List Int) (la : Bool) (y0 : Int) (hy0 : 0 ≤ y0) (hy1 : y0 ≤ 255) (z0 : Int) (hz0 : 0 ≤ z0) (hz1 : z0 ≤ 65535) (w : World) (hx : Rp w w.heap.size A n ps) (hc : n ≤ c) (hy : Ru w w.heap.size Y my bs) :
    Calls Try.prog 13 #[.agg #[.int .i64 b, .slice A n c], .slice Y my cy, .bool la, .int .u8 y0, .int .u16 z0] w (RetB w true) := by
  cases la
  · exact wMoreA b A n c ps Y my cy bs y0 hy0 hy1 z0 hz0 hz1 w hx hc hy
  · by_cases h : c = n
    · exact wMoreB b A n c ps Y my cy bs y0 hy0 hy1 z0 hz0 hz1 w hx hc hy (Lib.hid h)
    · exact wMoreC b A n c ps Y my cy bs y0 hy0 hy1 z0 hz0 hz1 w hx hc hy (Lib.hid h)

set_option maxRecDepth 100000 in
theorem RoundMore_lifted (os : Go.Os) (started : os.Started) (H : Type) (enc : TypeId × Value → H) :
    ReturnsInHanded {} Try.checked os 13 .any (Rows.roundMoreSpec.pre6 enc Try.prog Try.f13 Rows.roundMoreRow.domain false) (Rows.roundMoreSpec.post enc Try.prog Try.f13 false true false false) := by
  refine returnsInHanded_of_change (C := Try.checked) row_own started (by kernel_rfl) Try.func13
    (ChangeSpec.witness6 (enc := enc) (C := Try.checked) false ⟨#[], #[.agg #[.int .i64 0, .slice none 0 0], .slice none 0 0, .bool false, .int .u8 0, .int .u16 0], []⟩ 8 (by kernel_rfl) (by kernel_rfl) (by kernel_rfl) (by kernel_rfl)) ?_
  intro W base args ds gs before hval0 hW _ _
  have hval : ∀ (j : Nat) t v, Try.f13.params[j]? = some t → args[j]? = some v → Value.okWide Try.prog W .any base t v := hval0
  have hW' := hW
  obtain ⟨p, q, hA0, hV, rfl, _, _⟩ := hW
  have hA : DataW.TrodAll enc Try.prog W 0 (fun _ => true) true Try.f13.params.toList args.toList ds p := hA0
  rw [Try.params13] at hA hval
  obtain ⟨v0, d0, p0, v1, d1, p1, v2, d2, p2, v3, d3, p3, v4, d4, p4, rfl, rfl, rfl, h0, h1, h2, h3, h4⟩ := trodAll_five hA
  obtain ⟨rfl, rfl⟩ := trodVars_none hV
  clear hA0 hval0
  simp only [List.append_nil] at hW'
  have hlt : ∀ x ∈ (p0 ++ p1 ++ p2 ++ p3 ++ p4), x.block < W.heap.size := fun x hx => by simpa using hW'.lt x hx
  have a0 := fun W' (hb : Below W.heap.size W W') => row_stays (t := 24) (by kernel_rfl) (of_decide_eq_true (by kernel_rfl)) h0 (fun x hx => hlt x (by simp [hx])) hb
  have a1 := fun W' (hb : Below W.heap.size W W') => row_stays (t := 55) (by kernel_rfl) (of_decide_eq_true (by kernel_rfl)) h1 (fun x hx => hlt x (by simp [hx])) hb
  have a2 := fun W' (hb : Below W.heap.size W W') => row_stays (t := 4) (by kernel_rfl) (of_decide_eq_true (by kernel_rfl)) h2 (fun x hx => hlt x (by simp [hx])) hb
  have a3 := fun W' (hb : Below W.heap.size W W') => row_stays (t := 5) (by kernel_rfl) (of_decide_eq_true (by kernel_rfl)) h3 (fun x hx => hlt x (by simp [hx])) hb
  have a4 := fun W' (hb : Below W.heap.size W W') => row_stays (t := 58) (by kernel_rfl) (of_decide_eq_true (by kernel_rfl)) h4 (fun x hx => hlt x (by simp [hx])) hb
  obtain ⟨b0, A0, n0, c0, ps0, rfl, hc0, hm0, hx0⟩ := row_pier (hval 0 24 v0 rfl rfl) h0 (fun x hx => hlt x (by simp [hx]))
  obtain ⟨A1, n1, c1, xs1, rfl, hc1, hm1, hx1, hw1⟩ := row_ints (t := 55) (e := 5) (k := .u8) (by kernel_rfl) (by kernel_rfl) (by kernel_rfl) (hval 1 55 v1 rfl rfl) h1 (fun x hx => hlt x (by simp [hx]))
  obtain ⟨x2, rfl, _, _⟩ := open_bool (P := Try.prog) (t := 4) (by kernel_rfl) (hval 2 4 v2 rfl rfl) h2
  obtain ⟨x3, rfl, _, _, wx3⟩ := open_int (P := Try.prog) (k := .u8) (t := 5) (by kernel_rfl) (hval 3 5 v3 rfl rfl) h3
  obtain ⟨x4, rfl, _, _, wx4⟩ := open_int (P := Try.prog) (k := .u16) (t := 58) (by kernel_rfl) (hval 4 58 v4 rfl rfl) h4
  refine (wMore b0 A0 n0 c0 ps0 A1 n1 c1 xs1 x2 x3 (u8_lo wx3) (u8_hi wx3) x4 (u16_lo wx4) (u16_hi wx4) W hx0 hc0 (Ru.of_row hx1 hw1)).mono fun e W' ⟨he, hb⟩ => ?_
  subst he
  exact ⟨_, rfl, _, _, _, [], (p0 ++ p1 ++ p2 ++ p3 ++ p4), [], hW', trodAll_mk1 (shut_bool Try.underlying4 true), (by simp only [List.append_assoc]; exact trodAll_mk5 (a0 _ hb) (a1 _ hb) (a2 _ hb) (a3 _ hb) (a4 _ hb)), rfl, hb.frame _, fun h => by cases h⟩
theorem RoundMore_holds : Rows.RoundMoreSaid :=
  OpenClaim.holds_of_wide 13 Try.f13 rfl rfl rfl rfl rfl rfl rfl ⟨rfl, rfl, rfl, rfl, rfl⟩ rfl rfl rfl rfl rfl (by kernel_rfl) Try.func13 (by kernel_rfl)
    (of_decide_eq_true (by kernel_rfl)) (by unfold Func.isWrapper; first | (rw [if_pos (by decide +kernel)]; kernel_rfl) | (rw [if_neg (by decide +kernel)]; exact ⟨rfl, rfl⟩))
    (fun os started H enc _ => RoundMore_lifted os started H enc)
#print axioms RoundMore_holds
end Go.Proofs.Ytaekjnjignlmoaa
