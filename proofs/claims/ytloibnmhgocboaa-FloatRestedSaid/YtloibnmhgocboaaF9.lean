/-
  The program: change, Change, Pay.
-/
import Derived.Test.YtloibnmhgocboaaF8
import Derived.Test.YtloibnmhgocboaaPQ
import Derived.Test.YtloibnmhgocboaaEql
namespace Go.Proofs.Ytloibnmhgocboaa
open Go.RowKit Go.Shelf

def cnt5 (P : List Int) : Array Value := #[.int .i64 (nth P 0), .int .i64 (nth P 1), .int .i64 (nth P 2), .int .i64 (nth P 3), .int .i64 (nth P 4)]
theorem cnt5_at {w : World} {b : Nat} {P : List Int} (h : Bk w b 82 (cnt5 P)) {k : Nat} (hk : k < 5) : w.cell? ⟨b, k, none⟩ = some (.int .i64 (nth P k)) := by
  rw [h.cell]
  match k, hk with
  | 0, _ => rfl
  | 1, _ => rfl
  | 2, _ => rfl
  | 3, _ => rfl
  | 4, _ => rfl
theorem cnt5_set {P : List Int} {x : Int} {k : Nat} (hk : k < 5) (hl : P.length = k) : (cnt5 P).setIfInBounds k (.int .i64 x) = cnt5 (P ++ [x]) := by
  match k, hk, P, hl with
  | 0, _, [], _ => rfl
  | 1, _, [a], _ => rfl
  | 2, _, [a, b], _ => rfl
  | 3, _, [a, b, c], _ => rfl
  | 4, _, [a, b, c, d], _ => rfl
def pad5 (P : List Int) : List Int := [nth P 0, nth P 1, nth P 2, nth P 3, nth P 4]
theorem cnt5_pad (P : List Int) : cnt5 P = (ints (pad5 P)).toArray := rfl
theorem pad5_zero {P : List Int} {n : Nat} (hn : n ≤ 5) (hl : P.length = n) : pad5 P = pad5 [] ↔ P = List.replicate n 0 := by
  constructor
  · intro h
    refine List.ext_getElem (by simp [hl]) fun j h1 h2 => ?_
    have hj : j < 5 := by omega
    have e : nth P j = 0 := by
      have h3 : nth P 0 = 0 ∧ nth P 1 = 0 ∧ nth P 2 = 0 ∧ nth P 3 = 0 ∧ nth P 4 = 0 := by
        simp only [pad5, List.cons.injEq] at h
        exact ⟨h.1, h.2.1, h.2.2.1, h.2.2.2.1, h.2.2.2.2.1⟩
      match j, hj with
      | 0, _ => exact h3.1
      | 1, _ => exact h3.2.1
      | 2, _ => exact h3.2.2.1
      | 3, _ => exact h3.2.2.2.1
      | 4, _ => exact h3.2.2.2.2
    rw [nth, List.getElem?_eq_getElem h1] at e
    simp at e
    simp [e]
  · rintro rfl
    have e : ∀ j : Nat, nth (List.replicate n (0 : Int)) j = nth [] j := fun j => by
      rcases Nat.lt_or_ge j n with h | h
      · rw [nth, List.getElem?_replicate, if_pos h]; rfl
      · rw [nth_out (by simpa using h)]; rfl
    unfold pad5
    rw [e, e, e, e, e]
theorem pushed_cnt {w : World} {b n : Nat} {P : List Int} (h : Bk w b 82 (cnt5 P)) (hl : P.length = n) (hn : n ≤ 5) : Ri w w.heap.size (some ⟨b, 0, none⟩) n P := by
  refine ⟨by rw [ints_length, hl]; omega, fun h0 => ⟨_, rfl, h.lt, fun j hj => ?_⟩⟩
  rw [ints_length] at hj
  rw [add_lit0, cnt5_at h (by omega)]
  simp [ints, nth, List.getElem?_eq_getElem hj]

set_option maxRecDepth 100000 in
set_option maxHeartbeats 8000000 in
theorem dChange (g m : Nat) (A : Option Addr) (n c : Nat) (cs st : List Int) (hcl : cs.length = n) (hsl : st.length = n) (hn5 : n ≤ 5) (HC : Hid (∀ x ∈ cs, 1 ≤ x ∧ x ≤ 50)) (HS : Hid (∀ x ∈ st, 0 ≤ x ∧ x ≤ 300)) (a : Nat) (ha : a ≤ 300) (w : World)
    (ht : Till w g m 0 A n c st (fun _ => none)) (hx : Ri w w.heap.size A n cs) (HA : Hid (∀ r : Nat, A.map Addr.block = some r → r ≠ m)) (B : Nat) (hBm : B ≤ m) (hBw : B ≤ w.heap.size) (L : List Int) (r : Int) (HR : Hid (bestL cs st a = (L, r))) :
    Calls Try.prog 65 #[.pointer (some ⟨g, 0, none⟩), .int .i64 (a : Int)] w fun e w' => ∃ (A' : Option Addr) (n' c' : Nat), e = .returned (.tuple #[.slice A' n' c', .int .i64 r]) ∧ Oi w' w.heap.size A' n' c' L ∧ Below B w w' := by
  have HLC := Lib.hid hcl
  have HLS := Lib.hid hsl
  have HC1 : Hid (∀ x ∈ cs, 1 ≤ x) := Lib.hid (fun x h => (HC.out x h).1)
  have HS0 : Hid (∀ x ∈ st, 0 ≤ x) := Lib.hid (fun x h => (HS.out x h).1)
  obtain ⟨v, HV⟩ : ∃ v, Hid (gmin cs st (a : Int) = v) := ⟨_, Lib.hid rfl⟩
  have hvb := gmin_le (cs := cs) (st := st) (a := (a : Int)) HC1.out HS0.out (by omega) (by omega)
  rw [HV.out] at hvb
  have HF0 : Hid (0 + room (fun _ => none) ≤ 2000) := Lib.hid (by have := room_le (fun _ => none); omega)
  have hcall := dFewest g m A n c cs st hcl hsl hn5 HC HS n 0 (by omega) a 0 (fun _ => none) w ha ht hx HA (Lib.hid (memo_none cs st)) HF0
  rw [List.drop_zero, List.drop_zero, HV.out] at hcall
  have kg := ht.bk
  have hgl := kg.lt
  have hgm := ht.ne
  have k0 : w.cell? ⟨g, 0, none⟩ = some (.slice A n c) := kg.cell 0
  have hmf : ∀ (fn : Fn) (first cap : Array Value) (w : World), (Instr.makeFunc fn first cap).run Try.prog w = .ok (.func fn first cap) w := fun _ _ _ _ => rfl
  by_cases hv : v < 0
  · have HE : Hid ([] = L ∧ 5 = r) := Lib.hid (by have e := HR.out; unfold bestL at e; rw [HV.out, if_pos hv] at e; cases e; exact ⟨rfl, rfl⟩)
    go_enter Try.func65, Try.ntmps65
    go_wp2
    go_step3
    go_wp2_with fail
    refine hcall.mono ?_
    rintro e w1 ⟨rfl, N1, f1, hms1, HM1, HN1, hgr1, _⟩
    go_wp2
    rw [Exit.noGoto_ret]
    go_ret2
    exact ⟨none, 0, 0, ret_le HE.out.2, by rw [← HE.out.1]; exact Oi.nil_ _ _, ⟨hgr1.os, hgr1.tape, hgr1.output, hgr1.size, fun k hk => hgr1.block k (by omega) (fun e => by cases e; omega)⟩⟩
  · have hv0 : 0 ≤ v := by omega
    have HE : Hid (chg cs st a v = L ∧ 0 = r) := Lib.hid (by have e := HR.out; unfold bestL at e; rw [HV.out, if_neg hv] at e; cases e; exact ⟨rfl, rfl⟩)
    have HCA : Hid (ChgAt cs st L 0 [] a v) := Lib.hid (by
      have h := chgAt_start (cs := cs) (st := st) (a := (a : Int)) (by omega) (by omega) (by rw [HV.out]; exact hv0) (by rw [HV.out]; exact hvb.2)
      rw [HV.out, HE.out.1] at h
      exact h)
    clear hv
    go_enter Try.func65, Try.ntmps65
    go_wp2
    go_step3
    go_wp2_with fail
    refine hcall.mono ?_
    rintro e w1 ⟨rfl, N1, f1, hms1, HM1, HN1, hgr1, _⟩
    have k1 : w1.cell? ⟨g, 0, none⟩ = some (.slice A n c) := hgr1.cell k0 (fun e => hgm (by simpa using e))
    have k2 : (w1.alloc (.cells #[.int .i64 0, .int .i64 0, .int .i64 0, .int .i64 0, .int .i64 0] 82)).cell? ⟨g, 0, none⟩ = some (.slice A n c) := (World.cell?_alloc_lt w1 _ _ (Nat.lt_of_lt_of_le hgl hgr1.size)).trans k1
    obtain ⟨cb, HCB⟩ : ∃ cb, Hid (w1.heap.size = cb) := ⟨_, Lib.hid rfl⟩
    have hcbs : w.heap.size ≤ cb := by rw [← HCB.out]; exact hgr1.size
    have hml := ht.ms.lt
    have hcbm : cb ≠ m := by omega
    have hb0 : Bk (w1.alloc (.cells #[.int .i64 0, .int .i64 0, .int .i64 0, .int .i64 0, .int .i64 0] 82)) cb 82 (cnt5 []) := by rw [← HCB.out]; exact Bk.new w1 _ _
    have hms2 := hms1.alloc (.cells #[.int .i64 0, .int .i64 0, .int .i64 0, .int .i64 0, .int .i64 0] 82)
    have hgw1 := hgr1.trans (World.grownBy_alloc w1 (.cells #[.int .i64 0, .int .i64 0, .int .i64 0, .int .i64 0, .int .i64 0] 82) (some m))
    clear hcall hms1 ht
    go_wp2
    go_step3
    go_wp2
    rw [HCB.out]
    go_loopw [7, 9, 29] (fun lv rv i wr => ∃ (k : Nat) (P : List Int) (rr l : Int) (N2 : Nat) (f2 : Int × Int → Option Int), k ≤ n ∧ i = .int .i64 (k : Int) ∧ lv = .int .i64 l ∧ rv = .int .i64 rr ∧ Hid (ChgAt cs st L k P rr l) ∧ Ms wr m N2 f2 ∧ Hid (Memo cs st f2) ∧ Hid (N2 + room f2 ≤ 2000) ∧ Bk wr cb 82 (cnt5 P) ∧ w.grownBy wr (some m)) (fun _ _ i _ => n - (intOf i).toNat)
    case atStart => exact ⟨0, [], a, v, N1, f1, Nat.zero_le _, rfl, rfl, rfl, HCA, hms2, HM1, HN1, hb0, hgw1⟩
    case round =>
      clear hms2 hgw1 hb0 k1 k2
      obtain ⟨k, P, rr, l, N2, f2, hk, rfl, rfl, rfl, HCK, hms2, HM2, HN2, hbk2, hgw2⟩ := hrel
      by_cases hlt : k < n
      · have hk5 : k < 5 := by omega
        have hcbl2 := hbk2.lt
        obtain ⟨ad, x, rfl, hadb, hcx0, hxk, _⟩ := hx.at_ hlt
        have hadm : ad.block ≠ m := HA.out ad.block rfl
        have hxr := HC.out x (List.mem_of_getElem? hxk.out)
        obtain ⟨hx1, hx50⟩ := hxr
        obtain ⟨s, hs⟩ : ∃ s, nth st k = s := ⟨_, rfl⟩
        have hsk : st[k]? = some s := by rw [← hs]; exact some_nth (by rw [HLS.out]; exact hlt)
        have hsr := HS.out s (List.mem_of_getElem? hsk)
        obtain ⟨hs0, hs300⟩ := hsr
        obtain ⟨p, hp1, hp2, hp3, hp4, hp5, HNX0⟩ := chgAt_next HCK.out hxk.out hsk hx1 hs0
        have HNX := Lib.hid HNX0
        have HP4 := Lib.hid hp4
        have HP5 := Lib.hid hp5
        clear HNX0 hp4 hp5
        have hrb := HCK.out.rest
        have hlb := HCK.out.left
        obtain ⟨hr0, hr300⟩ := hrb
        obtain ⟨hl0, hl300⟩ := hlb
        have cg0 : wr.cell? ⟨g, 0, none⟩ = some (.slice (some ad) n c) := hgw2.cell k0 (fun e => hgm (by simpa using e))
        have cgk : wr.cell? ⟨g, 2 + k, none⟩ = some (.int .i64 s) := by
          have h := till_stock (kg.grown hgw2 (fun e => hgm (by simpa using e))) hk5
          rw [hs] at h
          exact h
        have cx : wr.cell? (ad.add k) = some (.int .i64 x) := hgw2.cell hcx0 (fun e => hadm (by rw [addr_block] at e; simpa using e))
        have hws : IntKind.i64.wrap (s + 1) = s + 1 := IntWalk.i64_in _ (by omega)
        have hwk : IntKind.i64.wrap ((k : Int) + 1) = (k : Int) + 1 := IntWalk.i64_in _ (by omega)
        have HPL : Hid (P.length = k) := Lib.hid HCK.out.len
        clear hs hsk
        go_wp2
        go_loopw [7, 9, 41] (fun lv rv i wr => ∃ (j N3 : Nat) (f3 : Int × Int → Option Int), j ≤ p ∧ i = .int .i64 (j : Int) ∧ lv = .int .i64 l ∧ rv = .int .i64 rr ∧ Ms wr m N3 f3 ∧ Hid (Memo cs st f3) ∧ Hid (N3 + room f3 ≤ 2000) ∧ Bk wr cb 82 (cnt5 P) ∧ w.grownBy wr (some m)) (fun _ _ i _ => 400 - (intOf i).toNat)
        case atStart => exact ⟨0, N2, f2, Nat.zero_le _, rfl, rfl, rfl, hms2, HM2, HN2, hbk2, hgw2⟩
        case round =>
          clear hms2 hgw2 hbk2 cg0 cgk cx hcbl2
          obtain ⟨j, N3, f3, hj, rfl, rfl, rfl, hms3, HM3, HN3, hbk3, hgw3⟩ := hrel
          have hin2 : (j : Int) ≤ s ∧ (j : Int) * x ≤ rr := ⟨by omega, Int.le_trans (Int.mul_le_mul_of_nonneg_right (by omega) (by omega)) hp2⟩
          obtain ⟨hjs, hjx⟩ := hin2
          have hjs1 : (j : Int) < s + 1 := by omega
          have hjx0 : 0 ≤ (j : Int) * x := Int.mul_nonneg (by omega) (by omega)
          obtain ⟨q, HQ⟩ : ∃ q, Hid ((j : Int) * x = q) := ⟨_, Lib.hid rfl⟩
          have hqx : (j : Int) * x = q := HQ.out
          rw [hqx] at hjx hjx0
          have hwq : IntKind.i64.wrap q = q := IntWalk.i64_in _ (by omega)
          obtain ⟨u, HU⟩ : ∃ u : Nat, Hid (rr - q = u) := ⟨(rr - q).toNat, Lib.hid (by omega)⟩
          have hru : rr - q = u := HU.out
          have hu300 : u ≤ 300 := by omega
          have hwu : IntKind.i64.wrap (u : Int) = u := IntWalk.i64_in _ (by omega)
          have hwl : IntKind.i64.wrap (l - (j : Int)) = l - (j : Int) := IntWalk.i64_in _ (by omega)
          have cg0 : wr.cell? ⟨g, 0, none⟩ = some (.slice (some ad) n c) := hgw3.cell k0 (fun e => hgm (by simpa using e))
          have hxw : Ri wr wr.heap.size (some ad) n cs := Ri.more (B := w.heap.size) ⟨hx.1, fun hn0 => let ⟨ad', e1, e2, e3⟩ := hx.2 hn0; ⟨ad', e1, e2, fun i hi => hgw3.cell (e3 i hi) (fun e => by cases e1; rw [addr_block] at e; exact hadm (by simpa using e))⟩⟩ hgw3.size
          have htw : Till wr g m N3 (some ad) n c st f3 := ⟨kg.grown hgw3 (fun e => hgm (by simpa using e)), hms3, hgm⟩
          have hcall2 := dFewest g m (some ad) n c cs st HLC.out HLS.out hn5 HC HS (n - (k + 1)) (k + 1) (by omega) u N3 f3 wr hu300 htw hxw HA HM3 HN3
          obtain ⟨y, HY⟩ : ∃ y, Hid (gmin (cs.drop (k + 1)) (st.drop (k + 1)) (u : Int) = y) := ⟨_, Lib.hid rfl⟩
          rw [HY.out] at hcall2
          have HCALL := Lib.hid (show Calls Try.prog 83 #[.pointer (some ⟨g, 0, none⟩), .agg #[.int .i64 ((k : Int) + 1), .int .i64 (u : Int)]] wr _ from hcall2)
          clear hcall2
          have hcbl := hbk3.lt
          by_cases hjp : j = p
          · subst hjp
            have HYL : Hid (y = l - (j : Int)) := Lib.hid (by rw [← HY.out, ← HU.out, ← HQ.out]; exact HP4.out)
            have hy0 : 0 ≤ y := by rw [HYL.out]; omega
            have hd1 : decide (0 ≤ y) = true := decide_eq_true hy0
            have hd2 : (y == l - (j : Int)) = true := by rw [beq_iff_eq]; exact HYL.out
            have hcbf := hbk3.frozen k
            have HCS := Lib.hid (cnt5_set (x := (j : Int)) hk5 HPL.out)
            go_wp2_with fail
            refine (HCALL.out).mono ?_
            rintro e W4 ⟨rfl, N4, f4, hms4, HM4, HN4, hgr4, _⟩
            have hbk4 := hbk3.grown hgr4 (fun e => hcbm (by simpa using e))
            have hgw4 := hgw3.trans hgr4
            have cck := cnt5_at hbk4 hk5
            have ccf := hbk4.frozen k
            go_wp2
            go_roundw
            case rel =>
              refine ⟨k + 1, P ++ [(j : Int)], rr - j * x, l - j, N4, f4, by omega, by go_num, by rw [HYL.out], by rw [HQ.out, HU.out], HNX, hms4.setCell (a := ⟨cb, k, none⟩) hcbm.symm _, HM4, HN4, ?_, hgw4.andThen (grown_set W4 ⟨cb, k, none⟩ _) (fun i e => by cases e; exact .inl hcbs)⟩
              rw [← HCS.out]
              exact hbk4.set_ k _
            case measure => simp [intOf]; omega
          · have HNE : Hid (y ≠ l - (j : Int)) := Lib.hid (by
              have h := HP5.out j (by omega)
              rw [HQ.out, HU.out, HY.out] at h
              exact h)
            have hd2 : (y == l - (j : Int)) = false := by rw [beq_eq_false_iff_ne]; exact HNE.out
            by_cases hy0 : 0 ≤ y
            · have hd1 : decide (0 ≤ y) = true := decide_eq_true hy0
              go_wp2_with fail
              refine (HCALL.out).mono ?_
              rintro e W4 ⟨rfl, N4, f4, hms4, HM4, HN4, hgr4, _⟩
              have hbk4 := hbk3.grown hgr4 (fun e => hcbm (by simpa using e))
              have hgw4 := hgw3.trans hgr4
              go_wp2
              go_roundw
              case rel => exact ⟨j + 1, N4, f4, by omega, by go_num, rfl, rfl, hms4, HM4, HN4, hbk4, hgw4⟩
              case measure => simp [intOf]; omega
            · have hd1 : decide (0 ≤ y) = false := decide_eq_false hy0
              go_wp2_with fail
              refine (HCALL.out).mono ?_
              rintro e W4 ⟨rfl, N4, f4, hms4, HM4, HN4, hgr4, _⟩
              have hbk4 := hbk3.grown hgr4 (fun e => hcbm (by simpa using e))
              have hgw4 := hgw3.trans hgr4
              go_wp2
              go_roundw
              case rel => exact ⟨j + 1, N4, f4, by omega, by go_num, rfl, rfl, hms4, HM4, HN4, hbk4, hgw4⟩
              case measure => simp [intOf]; omega
      · obtain rfl : k = n := by omega
        have HLP : Hid (L = P) := Lib.hid (chgAt_end HLC.out HCK.out)
        have HPL : Hid (P.length = k) := Lib.hid HCK.out.len
        have hcbl2 := hbk2.lt
        have cg0 : wr.cell? ⟨g, 0, none⟩ = some (.slice A k c) := hgw2.cell k0 (fun e => hgm (by simpa using e))
        have q0 : wr.cell? ⟨cb, 0, none⟩ = some (.int .i64 (nth P 0)) := cnt5_at hbk2 (by omega)
        have q1 : wr.cell? ⟨cb, 1, none⟩ = some (.int .i64 (nth P 1)) := cnt5_at hbk2 (by omega)
        have q2 : wr.cell? ⟨cb, 2, none⟩ = some (.int .i64 (nth P 2)) := cnt5_at hbk2 (by omega)
        have q3 : wr.cell? ⟨cb, 3, none⟩ = some (.int .i64 (nth P 3)) := cnt5_at hbk2 (by omega)
        have q4 : wr.cell? ⟨cb, 4, none⟩ = some (.int .i64 (nth P 4)) := cnt5_at hbk2 (by omega)
        obtain ⟨b, HB⟩ : ∃ b, Hid (decide (pad5 P = pad5 []) = b) := ⟨_, Lib.hid rfl⟩
        have heql : ∀ w, (binOp .eql 82 (.agg #[.int .i64 (nth P 0), .int .i64 (nth P 1), .int .i64 (nth P 2), .int .i64 (nth P 3), .int .i64 (nth P 4)]) (.agg #[.int .i64 0, .int .i64 0, .int .i64 0, .int .i64 0, .int .i64 0])).run Try.prog w = .ok (.bool b) w := fun w => eql_counts (pad5 P) (pad5 []) rfl rfl w b HB.out
        have hBel : Below B w wr := ⟨hgw2.os, hgw2.tape, hgw2.output, hgw2.size, fun i hi => hgw2.block i (by omega) (fun e => by cases e; omega)⟩
        have hki : (k : Int) ≤ 5 := by omega
        have hki0 : (0 : Int) ≤ (k : Int) := by omega
        cases b
        · go_wp2_with (first
            | (simp only [heql])
            | (at_builtin; refine push_ints rfl (.const (.slice none 0 0)) (.tmp 90) rfl w.heap.size none 0 0 [] rfl (Oi.nil_ _ _) _ (some ⟨cb, 0, none⟩) k 5 P rfl (pushed_cnt hbk2 HPL.out hn5) (by omega) (by omega) hgw2.size ?_; intro A5 c5 w5 ho5 hg5; simp only [Nat.zero_add, List.nil_append] at ho5 ⊢))
          rw [Exit.noGoto_ret]
          go_ret2
          exact ⟨_, _, _, ret_le HE.out.2, by rw [HLP.out]; exact ho5, hBel.grown hg5 (by have := hgw2.size; omega) (fun i e => by cases e)⟩
        · have HZ : Hid (L = List.replicate k 0) := Lib.hid (by rw [HLP.out]; exact (pad5_zero hn5 HPL.out).1 (of_decide_eq_true HB.out))
          go_wp2_with (first
            | (simp only [heql])
            | (at_make; go_must (refine make_ints rfl (.tmp 82) (.tmp 82) rfl k _ rfl rfl rfl (by omega) ?_); go_must (intro w5 hr5 hb5)))
          rw [Exit.noGoto_ret]
          go_ret2
          exact ⟨_, _, _, ret_le HE.out.2, by rw [HZ.out]; exact hr5.base hgw2.size, hBel.trans (hb5.mono (by have := hgw2.size; omega))⟩
end Go.Proofs.Ytloibnmhgocboaa
