/-
  The program: the till of coins.
-/
import Derived.Test.YtloibnmhgocboaaA
import Derived.Test.YtloibnmhgocboaaBk
import Derived.Test.YtloibnmhgocboaaR1
namespace Go.Proofs.Ytloibnmhgocboaa
open Go.RowKit Go.Shelf

def tillCells (A : Option Addr) (n c m : Nat) (st : List Int) : Array Value :=
  #[.slice A n c, .map (some m), .int .i64 (nth st 0), .int .i64 (nth st 1), .int .i64 (nth st 2), .int .i64 (nth st 3), .int .i64 (nth st 4)]
/-- Block g is a till of coins, with a stock; block m what is kept. -/
structure Till (w : World) (g m N : Nat) (A : Option Addr) (n c : Nat) (st : List Int) (f : Int × Int → Option Int) : Prop where
  bk : Bk w g 84 (tillCells A n c m st)
  ms : Ms w m N f
  ne : g ≠ m
theorem till_stock {w : World} {g m : Nat} {A : Option Addr} {n c : Nat} {st : List Int} (h : Bk w g 84 (tillCells A n c m st)) {k : Nat} (hk : k < 5) : w.cell? ⟨g, 2 + k, none⟩ = some (.int .i64 (nth st k)) := by
  rw [h.cell]
  match k, hk with
  | 0, _ => rfl
  | 1, _ => rfl
  | 2, _ => rfl
  | 3, _ => rfl
  | 4, _ => rfl
theorem till_set {A : Option Addr} {n c m : Nat} {st : List Int} {x : Int} {k : Nat} (hk : k < 5) (hl : st.length = k) : (tillCells A n c m st).setIfInBounds (2 + k) (.int .i64 x) = tillCells A n c m (st ++ [x]) := by
  match k, hk, st, hl with
  | 0, _, [], _ => rfl
  | 1, _, [a], _ => rfl
  | 2, _, [a, b], _ => rfl
  | 3, _, [a, b, c], _ => rfl
  | 4, _, [a, b, c, d], _ => rfl
set_option maxHeartbeats 1000000 in
theorem fNewTill (A : Option Addr) (n c : Nat) (w : World) (hn : n ≤ 5) :
    Calls Try.prog 69 #[.slice A n c] w fun e w' => e = .returned (.pointer (some ⟨w.heap.size + 1, 0, none⟩)) ∧ Till w' (w.heap.size + 1) w.heap.size 0 A n c (List.replicate n 300) (fun _ => none) ∧ Below w.heap.size w w' := by
  have hmm := @run_makeMap Try.prog
  go_enter Try.func69, Try.ntmps69
  go_wp2
  obtain ⟨W1, hW1⟩ : ∃ W1 : World, (w.alloc (.map #[] 0)).alloc (.cells #[.slice A n c, .map (some w.heap.size), .int .i64 0, .int .i64 0, .int .i64 0, .int .i64 0, .int .i64 0] 84) = W1 := ⟨_, rfl⟩
  have hM : Ms W1 w.heap.size 0 (fun _ => none) := by rw [← hW1]; exact (Ms.made w).alloc _
  have hB : Bk W1 (w.heap.size + 1) 84 (tillCells A n c w.heap.size (List.replicate 0 300)) := by
    rw [← hW1]
    have := Bk.new (w.alloc (.map #[] 0)) 84 (tillCells A n c w.heap.size [])
    rw [World.size_alloc] at this
    exact this
  have hbl : Below w.heap.size w W1 := by rw [← hW1]; exact ((Below.refl _ w).alloc (Nat.le_refl _) _).alloc (by simp) _
  subst hW1
  clear hmm
  go_loopw [16] (fun i wr => ∃ k : Nat, k ≤ n ∧ i = .int .i64 k ∧ Ms wr w.heap.size 0 (fun _ => none) ∧ Bk wr (w.heap.size + 1) 84 (tillCells A n c w.heap.size (List.replicate k 300)) ∧ Below w.heap.size w wr) (fun i _ => n - (intOf i).toNat)
  case atStart => exact ⟨0, Nat.zero_le _, rfl, hM, hB, hbl⟩
  case round =>
    obtain ⟨k, hk, rfl, hm, hbk, hb⟩ := hrel
    by_cases hlt : k < n
    · have hk5 : k < 5 := by omega
      have hc0 := till_stock hbk hk5
      have hf0 := hbk.frozen (2 + k)
      have HS := Lib.hid (till_set (A := A) (n := n) (c := c) (m := w.heap.size) (x := 300) hk5 (List.length_replicate (n := k) (a := (300 : Int))))
      go_wp2
      go_roundw
      case rel =>
        refine ⟨k + 1, by omega, by go_num, hm.setCell (a := ⟨w.heap.size + 1, 2 + k, none⟩) (by simp) _, ?_, hb.setCell (by simp) _⟩
        rw [List.replicate_succ', ← HS.out]
        exact hbk.set_ (2 + k) _
      case measure => simp [intOf]; omega
    · obtain rfl : k = n := by omega
      go_wp2
      go_ret
      exact ⟨rfl, ⟨hbk, hm, by simp⟩, hb⟩

def stockN (n : Nat) : List Int := List.replicate n 300
set_option maxHeartbeats 1000000 in
theorem fOpen_err (A : Option Addr) (n c : Nat) (cs : List Int) (D : Option Addr) (n2 c2 : Nat) (am : List Int) (w : World) (hx : Ri w w.heap.size A n cs) (hy : Ri w w.heap.size D n2 am) (hn : n ≤ 1048576) (hn2 : n2 ≤ 1048576) (hc : n ≤ c) (r : Int)
    (HR : Hid ((if checkCoins cs = 0 then (if am.any (outB 0 300) then 3 else 0) else checkCoins cs) = r)) (h0 : r ≠ 0) :
    Calls Try.prog 61 #[.slice A n c, .slice D n2 c2] w fun e w' => e = .returned (.tuple #[.pointer none, .int .i64 r]) ∧ Below w.heap.size w w' := by
  obtain ⟨q, HQ⟩ : ∃ q, Hid (checkCoins cs = q) := ⟨_, Lib.hid rfl⟩
  by_cases hq0 : q = 0
  · subst hq0
    obtain ⟨b, HB⟩ : ∃ b, Hid (am.any (outB 0 300) = b) := ⟨_, Lib.hid rfl⟩
    have h := HR.out
    rw [if_pos HQ.out, HB.out] at h
    cases b with
    | false => rw [if_neg (by decide)] at h; exact absurd h.symm h0
    | true =>
      rw [if_pos rfl] at h
      have HE := Lib.hid h
      clear h
      go_enter Try.func61, Try.ntmps61
      go_wp2_with fail
      refine (fCheckCoins _ _ _ _ _ hx (by omega) hc _ HQ).mono ?_
      rintro e w1 ⟨rfl, hb1⟩
      go_wp2_with fail
      refine (fWithin _ _ _ _ _ _ _ (hy.next hb1 (Nat.le_refl _) hb1.size) (by omega) _ HB).mono ?_
      rintro e w2 ⟨rfl, hb2, hs2⟩
      clear hs2
      have hb3 := hb1.trans (hb2.mono hb1.size)
      go_wp2
      go_ret2
      exact ⟨by rw [← HE.out]; rfl, hb3⟩
  · have HE : Hid (q = r) := Lib.hid (by have h := HR.out; rwa [if_neg (by rw [HQ.out]; exact hq0), HQ.out] at h)
    have hqb := ne0 hq0
    go_enter Try.func61, Try.ntmps61
    go_wp2_with fail
    refine (fCheckCoins _ _ _ _ _ hx (by omega) hc _ HQ).mono ?_
    rintro e w1 ⟨rfl, hb1⟩
    go_wp2
    go_ret2
    exact ⟨by rw [← HE.out]; rfl, hb1⟩
set_option maxHeartbeats 1000000 in
theorem fOpen_ok (A : Option Addr) (n c : Nat) (cs : List Int) (D : Option Addr) (n2 c2 : Nat) (am : List Int) (w : World) (hx : Ri w w.heap.size A n cs) (hy : Ri w w.heap.size D n2 am) (hn2 : n2 ≤ 1048576) (hc : n ≤ c) (HG : Hid (Good cs)) (HA : Hid (am.any (outB 0 300) = false)) :
    Calls Try.prog 61 #[.slice A n c, .slice D n2 c2] w fun e w' => ∃ g m : Nat, e = .returned (.tuple #[.pointer (some ⟨g, 0, none⟩), .int .i64 0]) ∧ Till w' g m 0 A n c (stockN n) (fun _ => none) ∧ w.heap.size ≤ g ∧ w.heap.size ≤ m ∧ Below w.heap.size w w' := by
  have HQ : Hid (checkCoins cs = 0) := Lib.hid (checkCoins_good.2 HG.out)
  have hn5 : n ≤ 5 := by rw [← hx.len]; exact HG.out.hi
  go_enter Try.func61, Try.ntmps61
  go_wp2_with fail
  refine (fCheckCoins _ _ _ _ _ hx (by omega) hc _ HQ).mono ?_
  rintro e w1 ⟨rfl, hb1⟩
  go_wp2_with fail
  refine (fWithin _ _ _ _ _ _ _ (hy.next hb1 (Nat.le_refl _) hb1.size) (by omega) _ HA).mono ?_
  rintro e w2 ⟨rfl, hb2, hs2⟩
  clear hs2
  have hb3 := hb1.trans (hb2.mono hb1.size)
  clear hb1 hb2
  go_wp2_with fail
  refine (fNewTill _ _ _ _ hn5).mono ?_
  rintro e w3 ⟨rfl, ht, hb4⟩
  have hb5 := hb3.trans (hb4.mono hb3.size)
  have hsz := hb3.size
  go_wp2
  go_ret2
  exact ⟨_, _, rfl, ht, by omega, hsz, hb5⟩
set_option maxHeartbeats 2000000 in
theorem fCheckChangeT (A : Option Addr) (n c : Nat) (cs : List Int) (D : Option Addr) (n2 c2 : Nat) (v : List Int) (w : World) (hx : Ri w w.heap.size A n cs) (hy : Ri w w.heap.size D n2 v) (hn : n ≤ 1048576) (hn2 : n2 ≤ 1048576) (hc : n ≤ c) (a m r : Int) (HR : Hid (changeCS cs v = (a, m, r))) :
    Calls Try.prog 20 #[.slice A n c, .slice D n2 c2] w fun e w' => e = .returned (.tuple #[.int .i64 a, .int .i64 m, .int .i64 r]) ∧ Below w.heap.size w w' := by
  obtain ⟨q, HQ⟩ : ∃ q, Hid (checkCoins cs = q) := ⟨_, Lib.hid rfl⟩
  have HL := Lib.hid hx.len
  have HL2 := Lib.hid hy.len
  by_cases h0 : q = 0
  · subst h0
    have hg := checkCoins_good.1 HQ.out
    have HC : Hid (∀ c ∈ cs, 0 ≤ c ∧ c ≤ 50) := Lib.hid (fun c hc => by have := hg.all c hc; omega)
    have hn5 : n ≤ 5 := by rw [← HL.out]; exact hg.hi
    clear hg
    by_cases h1 : n2 = n
    · subst h1
      have HN : Hid (¬ v.length ≠ cs.length) := Lib.hid (by rw [HL.out, HL2.out]; simp)
      obtain ⟨b, HBB⟩ : ∃ b, Hid (v.any (outB 0 1000) = b) := ⟨_, Lib.hid rfl⟩
      go_enter Try.func20, Try.ntmps20
      go_wp2_with fail
      refine (fCheckCoins _ _ _ _ _ hx (by omega) hc _ HQ).mono ?_
      rintro e w1 ⟨rfl, hb1⟩
      go_wp2_with fail
      refine (fWithin _ _ _ _ _ _ _ (hy.next hb1 (Nat.le_refl _) hb1.size) (by omega) _ HBB).mono ?_
      rintro e w2 ⟨rfl, hb2, hs2⟩
      clear hs2
      have hb3 := hb1.trans (hb2.mono hb1.size)
      clear hb1 hb2
      cases b
      · have HV : Hid (∀ x ∈ v, 0 ≤ x ∧ x ≤ 1000) := Lib.hid (any_out.1 HBB.out)
        have HE : Hid (dot cs v = a ∧ v.sum = m ∧ 0 = r) := Lib.hid (by
          have e := HR.out
          unfold changeCS at e
          rw [if_pos HQ.out, if_neg HN.out, HBB.out] at e
          cases e
          exact ⟨rfl, rfl, rfl⟩)
        have hx2 := hx.below hb3
        have hy2 := hy.below hb3
        go_wp2
        go_loop [8, 9, 30] (fun s t i => ∃ k : Nat, k ≤ n2 ∧ i = .int .i64 k ∧ s = .int .i64 (dotTo cs v k) ∧ t = .int .i64 (sumTo' v k)) (fun _ _ i => n2 - (intOf i).toNat)
        case atStart => exact ⟨0, Nat.zero_le _, rfl, rfl, rfl⟩
        case round =>
          obtain ⟨k, hk, rfl, rfl, rfl⟩ := hrel
          by_cases hlt : k < n2
          · obtain ⟨ad, x, rfl, _, cx, hxk, _⟩ := hx2.at_ hlt
            obtain ⟨ad2, y, rfl, _, cy, hyk, _⟩ := hy2.at_ hlt
            have b1 := sums_bd HC.out HV.out k
            have e1 := dotTo_succ hxk.out hyk.out
            have e2 := sumTo'_succ hyk.out
            have hb1 := HC.out x (List.mem_of_getElem? hxk.out)
            have hb2 := HV.out y (List.mem_of_getElem? hyk.out)
            have h5 : 0 ≤ y * x := Int.mul_nonneg hb2.1 hb1.1
            have h6 : y * x ≤ 1000 * 50 := Int.mul_le_mul hb2.2 hb1.2 hb1.1 (by omega)
            rw [Int.mul_comm] at e1
            have HX := Lib.hid e1
            have HY := Lib.hid e2
            obtain ⟨p, HP⟩ : ∃ p, Hid (dotTo cs v k = p) := ⟨_, Lib.hid rfl⟩
            obtain ⟨q, HQ2⟩ : ∃ p, Hid (sumTo' v k = p) := ⟨_, Lib.hid rfl⟩
            rw [HP.out] at b1 ⊢
            rw [HQ2.out] at b1 ⊢
            clear e1 e2
            have w1 : IntKind.i64.wrap (y * x) = y * x := IntWalk.i64_in _ (by omega)
            have w2 : IntKind.i64.wrap (p + y * x) = p + y * x := IntWalk.i64_in _ (by omega)
            have w3 : IntKind.i64.wrap (q + y) = q + y := IntWalk.i64_in _ (by omega)
            go_wp2
            go_round
            case rel => exact ⟨k + 1, by omega, by go_num, by rw [HX.out, HP.out], by rw [HY.out, HQ2.out]⟩
            case measure => simp [intOf]; omega
          · obtain rfl : k = n2 := by omega
            have HK : Hid (dotTo cs v k = a ∧ sumTo' v k = m) := Lib.hid ⟨(dotTo_all HL.out HL2.out).trans HE.out.1, (sumTo'_all HL2.out).trans HE.out.2.1⟩
            go_wp2
            go_ret3
            exact ⟨ret_iii HK.out.1 HK.out.2 HE.out.2.2, hb3⟩
      · have HE : Hid (0 = a ∧ 0 = m ∧ 3 = r) := Lib.hid (by
          have e := HR.out
          unfold changeCS at e
          rw [if_pos HQ.out, if_neg HN.out, if_pos HBB.out] at e
          cases e
          exact ⟨rfl, rfl, rfl⟩)
        go_wp2
        go_ret3
        exact ⟨ret_iii HE.out.1 HE.out.2.1 HE.out.2.2, hb3⟩
    · have HE : Hid (0 = a ∧ 0 = m ∧ 15 = r) := Lib.hid (by
        have e := HR.out
        unfold changeCS at e
        rw [if_pos HQ.out, if_pos (by rw [HL.out, HL2.out]; exact h1)] at e
        cases e
        exact ⟨rfl, rfl, rfl⟩)
      have hne : ((n2 : Int) != (n : Int)) = true := by simp only [bne_iff_ne, ne_eq]; omega
      go_enter Try.func20, Try.ntmps20
      go_wp2_with fail
      refine (fCheckCoins _ _ _ _ _ hx (by omega) hc _ HQ).mono ?_
      rintro e w1 ⟨rfl, hb1⟩
      go_wp2
      go_ret3
      exact ⟨ret_iii HE.out.1 HE.out.2.1 HE.out.2.2, hb1⟩
  · have HE : Hid (0 = a ∧ 0 = m ∧ q = r) := Lib.hid (by
      have e := HR.out
      unfold changeCS at e
      rw [if_neg (by rw [HQ.out]; exact h0), HQ.out] at e
      cases e
      exact ⟨rfl, rfl, rfl⟩)
    have hq := ne0 h0
    go_enter Try.func20, Try.ntmps20
    go_wp2_with fail
    refine (fCheckCoins _ _ _ _ _ hx (by omega) hc _ HQ).mono ?_
    rintro e w1 ⟨rfl, hb1⟩
    go_wp2
    go_ret3
    exact ⟨ret_iii HE.out.1 HE.out.2.1 HE.out.2.2, hb1⟩
end Go.Proofs.Ytloibnmhgocboaa
