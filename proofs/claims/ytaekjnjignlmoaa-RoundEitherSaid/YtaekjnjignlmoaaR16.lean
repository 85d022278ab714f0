/-
  The reference: 'Listed'.
-/
import Derived.Test.YtaekjnjignlmoaaR2
namespace Go.Proofs.Ytaekjnjignlmoaa
open Go.RowKit Go.Shelf

/-- The numbers that bits say. -/
def listedN (z n : Nat) : List Nat := (List.range n).filter fun i => z.testBit i
theorem listedN_succ (z k : Nat) : listedN z (k + 1) = listedN z k ++ if z.testBit k then [k] else [] := by
  unfold listedN
  rw [List.range_succ, List.filter_append]
  cases h : z.testBit k <;> simp [h]
theorem listedN_len (z k : Nat) : (listedN z k).length ≤ k := by
  have h := List.length_filter_le (fun i => z.testBit i) (List.range k)
  rw [List.length_range] at h
  exact h
theorem and_i64 (a b : Nat) (ha : a < 2 ^ 62) (hb : b < 2 ^ 62) : bits .and .i64 (a : Int) (b : Int) = ((a &&& b : Nat) : Int) := by
  have hx : a &&& b < 2 ^ 62 := Nat.and_lt_two_pow _ hb
  have h1 : (BitVec.ofInt 64 (a : Int)).toNat = a := by
    rw [BitVec.ofInt_natCast, BitVec.toNat_ofNat]; exact Nat.mod_eq_of_lt (by omega)
  have h2 : (BitVec.ofInt 64 (b : Int)).toNat = b := by
    rw [BitVec.ofInt_natCast, BitVec.toNat_ofNat]; exact Nat.mod_eq_of_lt (by omega)
  show IntKind.i64.wrap ((BitVec.ofInt 64 (a : Int) &&& BitVec.ofInt 64 (b : Int)).toNat : Int) = _
  rw [BitVec.toNat_and, h1, h2]
  exact IntWalk.i64_in _ (by omega)
theorem or_i64 (a b : Nat) (ha : a < 2 ^ 62) (hb : b < 2 ^ 62) : bits .or .i64 (a : Int) (b : Int) = ((a ||| b : Nat) : Int) := by
  have hx : a ||| b < 2 ^ 62 := Nat.or_lt_two_pow ha hb
  have h1 : (BitVec.ofInt 64 (a : Int)).toNat = a := by
    rw [BitVec.ofInt_natCast, BitVec.toNat_ofNat]; exact Nat.mod_eq_of_lt (by omega)
  have h2 : (BitVec.ofInt 64 (b : Int)).toNat = b := by
    rw [BitVec.ofInt_natCast, BitVec.toNat_ofNat]; exact Nat.mod_eq_of_lt (by omega)
  show IntKind.i64.wrap ((BitVec.ofInt 64 (a : Int) ||| BitVec.ofInt 64 (b : Int)).toNat : Int) = _
  rw [BitVec.toNat_or, h1, h2]
  exact IntWalk.i64_in _ (by omega)
set_option maxRecDepth 100000 in
set_option maxHeartbeats 2000000 in
theorem rListed (z n : Nat) (w : World) (hb16 : z < 65536) (hn : n ≤ 20) (L : List Nat) (HL : Hid (listedN z n = L)) (m : Nat) (HM : Hid (L.length = m)) :
    Calls Try.prog 47 #[.int .i64 (z : Int), .int .i64 (n : Int)] w fun e w' => ∃ (A : Option Addr) (c : Nat), e = .returned (.slice A m c) ∧ Oj w' w.heap.size A m c (ofN L) ∧ Below w.heap.size w w' := by
  go_enter Try.func47, Try.ntmps47
  go_wp2
  go_loopw [5, 6] (fun o i wr => ∃ (k j : Nat) (A : Option Addr) (c : Nat) (l : List Nat), k ≤ n ∧ i = .int .i64 (k : Int) ∧ o = .slice A j c ∧ Hid (listedN z k = l) ∧ Hid (l.length = j) ∧ Oj wr w.heap.size A j c (ofN l) ∧ Below w.heap.size w wr) (fun _ i _ => n - (intOf i).toNat)
  case atStart => exact ⟨0, 0, none, 0, [], Nat.zero_le _, rfl, rfl, Lib.hid rfl, Lib.hid rfl, Oj.nil_ _ _, Below.refl _ _⟩
  case round =>
    obtain ⟨k, j, A, c, l, hk, rfl, rfl, HK, HJ, ho, hb⟩ := hrel
    have hj : j ≤ 20 := by have h := listedN_len z k; have h1 := HK.out; have h2 := HJ.out; rw [h1, h2] at h; omega
    have hAb : ∀ r, A.map Addr.block = some r → w.heap.size ≤ r := fun r e => (ho.lt r e).1
    have hsz : w.heap.size ≤ wr.heap.size := hb.size
    by_cases hlt : k < n
    · obtain ⟨q, HQ⟩ : ∃ q : Nat, Hid (z / 2 ^ k = q) := ⟨_, Lib.hid rfl⟩
      have hq : q < 65536 := by rw [← HQ.out]; exact Nat.lt_of_le_of_lt (Nat.div_le_self _ _) hb16
      have hmin : min k 64 = k := by omega
      have hsh : (z : Int) / 2 ^ k = (q : Int) := by rw [← HQ.out]; simp
      obtain ⟨t, HT⟩ : ∃ t : Bool, Hid (z.testBit k = t) := ⟨_, Lib.hid rfl⟩
      have hband : bits .and .i64 (q : Int) 1 = ((q % 2 : Nat) : Int) := by
        have h := and_i64 q 1 (by omega) (by omega)
        rw [Nat.and_one_is_mod] at h
        exact h
      have hbb : (((q % 2 : Nat) : Int) == 1) = t := by
        rw [← HT.out, Nat.testBit_eq_decide_div_mod_eq, HQ.out]
        by_cases h : q % 2 = 1
        · rw [h]; rfl
        · have h0 : q % 2 = 0 := by omega
          rw [h0]; rfl
      have hsb : (bits .and .i64 (q : Int) 1 == 1) = t := by rw [hband]; exact hbb
      have HS : Hid (listedN z (k + 1) = l ++ if t then [k] else []) := Lib.hid (by rw [listedN_succ, HK.out, HT.out])
      clear hband hbb
      cases t
      · have HS2 : Hid (listedN z (k + 1) = l) := Lib.hid (by rw [HS.out]; simp)
        go_wp2
        go_roundw
        case rel => exact ⟨k + 1, j, A, c, l, by omega, by go_num, rfl, HS2, HJ, ho, hb⟩
        case measure => simp [intOf]; omega
      · have HS2 : Hid (listedN z (k + 1) = l ++ [k]) := Lib.hid (by rw [HS.out]; rfl)
        have HJ2 : Hid ((l ++ [k]).length = j + 1) := Lib.hid (by rw [List.length_append, HJ.out]; rfl)
        go_wp2_with (at_builtin; go_must (refine push_num rfl (.tmp 17) (.tmp 19) rfl w.heap.size A j c (ofN l) rfl (ho.alloc _) ⟨wr.heap.size, 0, none⟩ 1 (k : Int) rfl (cell_new1 _ _ _) (by omega) (by simp only [World.size_alloc]; omega) ?_); intro g1 cap1 w2 ho1 hg1)
        have hb2 : Below w.heap.size w w2 := (hb.alloc (by omega) _).grown hg1 (by simp; omega) hAb
        go_roundw
        case rel => exact ⟨k + 1, j + 1, _, _, l ++ [k], by omega, by go_num, rfl, HS2, HJ2, by rw [ofN_append]; exact ho1, hb2⟩
        case measure => simp [intOf]; omega
    · have hkn : k = n := by omega
      have HE : Hid (l = L) := Lib.hid (by rw [← HK.out, hkn, HL.out])
      have HE2 : Hid (j = m) := Lib.hid (by rw [← HJ.out, HE.out, HM.out])
      clear hkn
      go_wp2
      go_ret
      exact ⟨A, c, by rw [← HE2.out]; rfl, by rw [← HE.out, ← HE2.out]; exact ho, hb⟩
end Go.Proofs.Ytaekjnjignlmoaa
