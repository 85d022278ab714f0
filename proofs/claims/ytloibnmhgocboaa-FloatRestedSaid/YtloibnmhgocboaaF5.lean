/-
  The program: Rests, Greatest, Many.
-/
import Derived.Test.YtloibnmhgocboaaF4
import Derived.Test.YtloibnmhgocboaaQuiet
namespace Go.Proofs.Ytloibnmhgocboaa
open Go.RowKit Go.Shelf

theorem nil_amounts : ([] : List Int).any (outB 0 300) = false := rfl
set_option maxHeartbeats 1000000 in
theorem fRestsT (A : Option Addr) (n c : Nat) (cs : List Int) (w : World) (hx : Ri w w.heap.size A n cs) (hn : n ≤ 1048576) (hc : n ≤ c) (L : List Int) (r : Int) (HR : Hid (restsS cs = (L, r))) : Calls Try.prog 39 #[.slice A n c] w (RetLE w L r) := by
  obtain ⟨q, HQ⟩ : ∃ q, Hid (checkCoins cs = q) := ⟨_, Lib.hid rfl⟩
  have h00 : Ri w w.heap.size none 0 [] := Ri.nil_ _
  by_cases h0 : q = 0
  · subst h0
    have HG : Hid (Good cs) := Lib.hid (checkCoins_good.1 HQ.out)
    have HE : Hid (restsL cs = L ∧ 0 = r) := Lib.hid (by
      have e := HR.out
      unfold restsS at e
      rw [if_pos HQ.out] at e
      cases e
      exact ⟨rfl, rfl⟩)
    go_enter Try.func39, Try.ntmps39
    go_wp2_with fail
    refine (fOpen_ok A n c cs none 0 0 [] w hx h00 (by omega) hc HG (Lib.hid nil_amounts)).mono ?_
    rintro e w1 ⟨g, m, rfl, ht, hg1, hm1, hb1⟩
    have hx1 := hx.next hb1 (Nat.le_refl _) hb1.size
    go_wp2_with fail
    refine (dRests g m 0 A n c (stockN n) cs _ HG hc w1 ht hx1).mono ?_
    rintro e w2 ⟨A', c', rfl, ho, hb2⟩
    have hb3 := hb1.trans (hb2.mono hb1.size)
    have ho2 := ho.base hb1.size
    go_wp2
    go_ret2
    exact ⟨_, _, _, ret_le HE.out.2, by rw [← HE.out.1]; exact ho2, hb3⟩
  · have HE : Hid ([] = L ∧ q = r) := Lib.hid (by
      have e := HR.out
      unfold restsS at e
      rw [if_neg (by rw [HQ.out]; exact h0), HQ.out] at e
      cases e
      exact ⟨rfl, rfl⟩)
    have hq := ne0 h0
    go_enter Try.func39, Try.ntmps39
    go_wp2_with fail
    refine (fOpen_err A n c cs none 0 0 [] w hx h00 hn (by omega) hc q (Lib.hid (by rw [if_neg (by rw [HQ.out]; exact h0), HQ.out])) h0).mono ?_
    rintro e w1 ⟨rfl, hb1⟩
    go_wp2
    go_ret2
    exact ⟨none, 0, 0, ret_le HE.out.2, by rw [← HE.out.1]; exact Oi.nil_ _ _, hb1⟩

set_option maxHeartbeats 400000 in
theorem indexLong (A : Option Addr) (n c B : Nat) (xs : List Int) (z : Int) (w : World) (hx : Ri w B A n xs) (hn : n ≤ 1099511627776) (r : Bool) (HR : Hid ((xs.any fun x => decide (x = z)) = r)) :
    Calls Try.prog 84 #[.slice A n c, .int .i64 z] w fun e w' => (∃ k : Int, e = .returned (.int .i64 k) ∧ decide (0 ≤ k) = r) ∧ w = w' := by
  have HL := Lib.hid hx.len
  go_enter Try.func84, Try.ntmps84
  go_wp2
  go_loop [8] (fun i => ∃ k : Nat, k ≤ n ∧ i = .int .i64 k ∧ Hid (((xs.take k).any fun x => decide (x = z)) = false)) (fun i => n - (intOf i).toNat)
  case atStart => exact ⟨0, Nat.zero_le _, rfl, Lib.hid rfl⟩
  case round =>
    obtain ⟨k, hk, rfl, hno⟩ := hrel
    by_cases hlt : k < n
    · obtain ⟨ad, x, rfl, _, hc, hxk, _⟩ := hx.at_ hlt
      by_cases he : z = x
      · have hb : (z == x) = true := by simp [he]
        have HX : Hid (r = true) := Lib.hid (by rw [← HR.out]; exact List.any_eq_true.2 ⟨x, List.mem_of_getElem? hxk.out, decide_eq_true he.symm⟩)
        clear he
        go_wp2
        go_ret
        exact ⟨⟨k, rfl, by rw [HX.out]; simp⟩, rfl⟩
      · have hb : (z == x) = false := by simp [he]
        have HX : Hid (((xs.take (k + 1)).any fun x => decide (x = z)) = false) := Lib.hid (by rw [take_snoc hxk.out, List.any_append, hno.out]; simp; exact fun e => he e.symm)
        clear he
        go_wp2
        go_round
        case rel => exact ⟨k + 1, by omega, by go_num, HX⟩
        case measure => simp [intOf]; omega
    · have HX : Hid (r = false) := Lib.hid (by rw [← HR.out]; have := hno.out; rw [List.take_of_length_le (by rw [HL.out]; omega)] at this; exact this)
      go_wp2
      go_ret
      exact ⟨⟨-1, rfl, by rw [HX.out]; simp⟩, rfl⟩
set_option maxHeartbeats 400000 in
theorem containsLong (A : Option Addr) (n c B : Nat) (xs : List Int) (z : Int) (w : World) (hx : Ri w B A n xs) (hn : n ≤ 1099511627776) (r : Bool) (HR : Hid ((xs.any fun x => decide (x = z)) = r)) :
    Calls Try.prog 72 #[.slice A n c, .int .i64 z] w fun e w' => e = .returned (.bool r) ∧ w = w' := by
  go_enter Try.func72, Try.ntmps72
  go_wp2_with (go_at_call 84; refine (indexLong _ _ _ _ _ _ _ hx hn _ HR).mono ?_; rintro e w' ⟨⟨k, rfl, hk⟩, rfl⟩; have HK := Lib.hid hk; clear hk)
  go_ret
  exact ⟨ret_b HK.out, rfl⟩
theorem fGreater (a b : Int) (w : World) : Calls Try.prog 74 #[.int .i64 a, .int .i64 b] w fun e w' => e = .returned (.bool (decide (b < a))) ∧ w = w' := by
  go_enter Try.func74, Try.ntmps74
  go_wp2
  go_ret
  exact ⟨rfl, rfl⟩
def bestM (L : List Int) (k : Nat) : Int := ((L.drop 1).take k).foldl (fun m x => if m < x then x else m) (nth L 0)
theorem bestM_succ {L : List Int} {k : Nat} {x : Int} (h : L[k + 1]? = some x) : bestM L (k + 1) = if bestM L k < x then x else bestM L k := by
  unfold bestM
  have e : (L.drop 1)[k]? = some x := by rw [List.getElem?_drop, Nat.add_comm]; exact h
  rw [take_snoc e, List.foldl_append]
  rfl
theorem bestM_max {L : List Int} {n : Nat} (hl : L.length = n + 1) (h0 : nth L 0 = 0) : bestM L n = maxL L := by
  match L, hl, h0 with
  | x :: L', hl, h0 =>
    have hx : x = 0 := h0
    subst hx
    have hl' : L'.length = n := by simpa using hl
    unfold bestM maxL
    rw [List.drop_one, List.tail_cons, List.take_of_length_le (by omega), List.foldl_cons]
    rfl
set_option maxHeartbeats 1000000 in
theorem fBest (A : Option Addr) (n c B : Nat) (L : List Int) (w : World) (hx : Ri w B A (n + 1) L) (hn : n ≤ 1048576) (hc : n + 1 ≤ c) :
    Calls Try.prog 73 #[.slice A (n + 1) c, .func (.func 74) #[] #[]] w fun e w' => e = .returned (.int .i64 (bestM L n)) ∧ w = w' := by
  obtain ⟨ad, x0, rfl, _, hc0, hx0, _⟩ := hx.at_ (k := 0) (by omega)
  rw [addr_zero] at hc0
  have HX0 : Hid (bestM L 0 = x0) := Lib.hid (by unfold bestM; rw [List.take_zero]; exact nth_some hx0.out)
  by_cases hc1 : c = 1
  · have hcle : c ≤ 1 := by omega
    have HN : Hid (n = 0) := Lib.hid (by omega)
    clear hc1
    go_enter Try.func73, Try.ntmps73
    go_wp2
    go_loop [5, 14] (fun o i => i = .int .i64 0 ∧ o = .int .i64 x0) (fun _ i => 1)
    case atStart => exact ⟨rfl, rfl⟩
    case round =>
      obtain ⟨rfl, rfl⟩ := hrel
      go_wp2
      go_ret
      exact ⟨ret_i (by rw [HN.out, HX0.out]), rfl⟩
  · have hc2 : 1 < c := by omega
    go_enter Try.func73, Try.ntmps73
    go_wp2
    go_loop [5, 14] (fun o i => ∃ (k : Nat) (z : Int), k ≤ n ∧ i = .int .i64 k ∧ o = .int .i64 z ∧ Hid (bestM L k = z)) (fun _ i => n - (intOf i).toNat)
    case atStart => exact ⟨0, x0, Nat.zero_le _, rfl, rfl, HX0⟩
    case round =>
      obtain ⟨k, z, hk, rfl, rfl, HZ⟩ := hrel
      by_cases hlt : k < n
      · obtain ⟨ad2, x, hA, _, cx0, hxk, _⟩ := hx.at_ (k := k + 1) (by omega)
        cases hA
        have cx : w.cell? ⟨ad.block, ad.off + 1 + k, none⟩ = some (.int .i64 x) := by rw [← add_succ]; exact cx0
        clear cx0
        have HS := Lib.hid (bestM_succ hxk.out)
        by_cases hzx : z < x
        · have hd : decide (z < x) = true := decide_eq_true hzx
          have HS2 : Hid (bestM L (k + 1) = x) := Lib.hid (by rw [HS.out, HZ.out, if_pos hzx])
          clear hzx
          go_wp2_with (go_at_call 74; refine (fGreater _ _ _).mono ?_; rintro e w' ⟨rfl, rfl⟩)
          go_round
          case rel => exact ⟨k + 1, x, by omega, by go_num, rfl, HS2⟩
          case measure => simp [intOf]; omega
        · have hd : decide (z < x) = false := decide_eq_false hzx
          have HS2 : Hid (bestM L (k + 1) = z) := Lib.hid (by rw [HS.out, HZ.out, if_neg hzx])
          clear hzx
          go_wp2_with (go_at_call 74; refine (fGreater _ _ _).mono ?_; rintro e w' ⟨rfl, rfl⟩)
          go_round
          case rel => exact ⟨k + 1, z, by omega, by go_num, rfl, HS2⟩
          case measure => simp [intOf]; omega
      · obtain rfl : k = n := by omega
        go_wp2
        go_ret
        exact ⟨ret_i HZ.out.symm, rfl⟩
end Go.Proofs.Ytloibnmhgocboaa
