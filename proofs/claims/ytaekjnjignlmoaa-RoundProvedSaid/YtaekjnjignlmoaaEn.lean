/-
  The program: 'ends'.
-/
import Derived.Test.YtaekjnjignlmoaaJ
import Derived.Test.YtaekjnjignlmoaaSq
import Derived.Test.YtaekjnjignlmoaaPlain
namespace Go.Proofs.Ytaekjnjignlmoaa
open Go.RowKit Go.Shelf
attribute [local go_sem] Oper.semAt_some

/-! ### All ends, shorter stretches first -/
def innE (a b s : Nat) : List (Nat × Nat × Nat) := (List.range s).map fun t => (a, b, t)
def midE (a b : Nat) : List (Nat × Nat × Nat) := (List.range b).flatMap fun y => innE a y 2
def outE (R a : Nat) : List (Nat × Nat × Nat) := (List.range a).flatMap fun x => midE x (R + 1)
theorem innE_succ (a b s : Nat) : innE a b (s + 1) = innE a b s ++ [(a, b, s)] := by unfold innE; rw [List.range_succ, List.map_append]; rfl
theorem midE_succ (a b : Nat) : midE a (b + 1) = midE a b ++ innE a b 2 := by unfold midE; rw [List.range_succ, List.flatMap_append]; simp
theorem outE_succ (R a : Nat) : outE R (a + 1) = outE R a ++ midE a (R + 1) := by unfold outE; rw [List.range_succ, List.flatMap_append]; simp
theorem innE_len (a b s : Nat) : (innE a b s).length = s := by simp [innE]
theorem midE_len (a b : Nat) : (midE a b).length = b * 2 := by
  induction b with
  | zero => rfl
  | succ b ih => rw [midE_succ, List.length_append, ih, innE_len]; omega
theorem outE_len (R a : Nat) : (outE R a).length = a * ((R + 1) * 2) := by
  induction a with
  | zero => simp [outE]
  | succ a ih =>
    rw [outE_succ, List.length_append, ih, midE_len]
    generalize (R + 1) * 2 = z
    rw [Nat.add_mul, Nat.one_mul]
def endsL (b : Int) (ps : List (Int × Int)) : List (Nat × Nat × Nat) := outE (ps.length - lefts b ps) (lefts b ps + 1)
def encE (x : Nat × Nat × Nat) : Array Value := #[.agg #[.int .i64 (x.1 : Int), .int .i64 (x.2.1 : Int), .int .i64 (x.2.2 : Int)]]
/-- An end in range. -/
def EndIn (b : Int) (ps : List (Int × Int)) (x : Nat × Nat × Nat) : Prop := x.1 ≤ lefts b ps ∧ x.2.1 ≤ ps.length - lefts b ps ∧ x.2.2 < 2
/-- What lay ahead of B0, and a block, are as they were. -/
structure Ke (B0 p : Nat) (A B : World) : Prop where
  below : Below B0 A B
  one : B.heap[p]? = A.heap[p]?
theorem Ke.refl (B0 p : Nat) (A : World) : Ke B0 p A A := ⟨Below.refl _ _, rfl⟩
theorem Ke.trans {B0 p : Nat} {A B C : World} (h : Ke B0 p A B) (k : Ke B0 p B C) : Ke B0 p A C := ⟨h.below.trans k.below, k.one.trans h.one⟩
theorem Ke.drewN {B0 p : Nat} {A B : World} (h : Ke B0 p A B) (n : Nat) : Ke B0 p A (B.drewN n) := ⟨below_drewN h.below n, h.one⟩
theorem Ke.putObj {B0 p l : Nat} {A : World} {o : Obj} (o' : Obj) (hl : B0 ≤ l) (hp : p ≠ l) (h : A.heap[l]? = some o) : Ke B0 p A (A.putObj l o') :=
  ⟨(Below.refl B0 A).grown (grownBy_putObj' A l o') (by have := (Array.getElem?_eq_some_iff.1 h).1; omega) (fun k e => by cases e; exact hl), by
    rcases Nat.lt_or_ge p A.heap.size with hlt | hge
    · exact (grownBy_putObj' A l o').block p hlt (fun e => hp (Option.some.inj e))
    · exact World.putObj_heap_other hp⟩

set_option maxRecDepth 100000 in
set_option maxHeartbeats 4000000 in
theorem ends_in (k lp bx g n c : Nat) (A : Option Addr) (b : Int) (ps : List (Int × Int)) (B0 BJ : Nat) (HP : Hid (Pier b ps)) (J Jx : List (Nat × Nat × Nat) → World → Prop) (hJ : AbidesFrom BJ J)
    (hY : ∀ pre x W, J pre W → EndIn b ps x → pre.length < (endsL b ps).length → YieldAt Fence.wide (k - 1) Try.prog lp (encE x) W fun e W' => (e = .returned (.bool true) ∧ J (pre ++ [x]) W' ∧ Ke B0 bx W W') ∨ (e = .returned (.bool false) ∧ Jx (pre ++ [x]) W'))
    (W : World) (hbx : W.cell? ⟨bx, 0, none⟩ = some (.pointer (some ⟨g, 0, none⟩))) (hw : Wk W B0 g A n c b ps) (h0 : J [] W) :
    CallsIn Fence.wide k Try.prog 113 #[.func (.yield lp) #[] #[], .pointer (some ⟨bx, 0, none⟩)] W fun e W' => (∃ v, e = .returned v) ∧
      ((∃ xs, xs = endsL b ps ∧ J xs W') ∨ (∃ pre, True ∧ Jx pre W')) := by
  have HLN := Lib.hid hw.rp.len
  have hn10 : n ≤ 10 := by have := HP.out.hi; have := HLN.out; omega
  have hq := lefts_le b ps
  rw [HLN.out] at hq
  obtain ⟨q, HQ⟩ : ∃ q, Hid (lefts b ps = q) := ⟨_, Lib.hid rfl⟩
  have HEL : Hid (endsL b ps = outE (n - q) (q + 1)) := Lib.hid (by unfold endsL; rw [HQ.out, HLN.out])
  have HLEN : Hid ((endsL b ps).length = (q + 1) * ((n - q + 1) * 2)) := Lib.hid (by rw [HEL.out, outE_len])
  have k2 := hw.c2
  rw [HQ.out] at hq k2
  have hw0 : IntKind.i64.wrap ((n : Int) - (q : Int)) = ((n - q : Nat) : Int) := by rw [IntWalk.i64_in _ (by omega)]; omega
  obtain ⟨R, HR⟩ : ∃ R, Hid (n - q = R) := ⟨_, Lib.hid rfl⟩
  have hR10 : R ≤ 10 := by have := HR.out; omega
  rw [HR.out] at HEL HLEN hw0
  refine callsIn_of_wp Try.func113 rfl trivial ?_ rfl
  simp only [Try.ntmps113, List.size_toArray, List.length_cons, List.length_nil, Nat.reduceAdd, Nat.reduceSub, Array.replicate_succ, Array.replicate_zero, List.push_toArray, List.append_toArray, List.nil_append, List.cons_append]
  gi_wp2
  gi_loopw [11] (fun i wr => ∃ a : Nat, a ≤ q + 1 ∧ i = .int .i64 (a : Int) ∧ J (outE R a) wr ∧ Ke B0 bx W wr) (fun i _ => q + 1 - (intOf i).toNat)
  case atStart => exact ⟨0, Nat.zero_le _, rfl, h0, Ke.refl _ _ _⟩
  case round =>
    obtain ⟨a, ha, rfl, hJa, hka⟩ := hrel
    have y2 : wr.cell? ⟨g, 2, none⟩ = some (.int .i64 (q : Int)) := (hka.below.cell (p := ⟨g, 2, none⟩) hw.lt).trans k2
    have y1 : wr.cell? ⟨g, 1, none⟩ = some (.slice A n c) := (hka.below.cell (p := ⟨g, 1, none⟩) hw.lt).trans hw.c1
    have yb : wr.cell? ⟨bx, 0, none⟩ = some (.pointer (some ⟨g, 0, none⟩)) := (cell_eq hka.one 0).trans hbx
    by_cases hlt : a < q + 1
    · gi_wp2
      gi_quiet (fail)
      gi_wp2
      have hd1 : decide ((a : Int) < (q : Int) + 1) = true := by simp; omega
      rw [hd1]
      clear hd1
      gi_loopw [26] (fun i wr' => ∃ b' : Nat, b' ≤ R + 1 ∧ i = .int .i64 (b' : Int) ∧ J (outE R a ++ midE a b') wr' ∧ Ke B0 bx W wr') (fun i _ => R + 1 - (intOf i).toNat)
      case atStart => exact ⟨0, Nat.zero_le _, rfl, by simp [midE]; exact hJ _ _ _ none hJa (grown_drewN _ _) (fun r e => by cases e), hka.drewN _⟩
      case round =>
        obtain ⟨b', hb', rfl, hJb, hkb⟩ := hrel
        by_cases hltb : b' < R + 1
        · gi_wp2
          have hd2 : decide ((b' : Int) < (R : Int) + 1) = true := by simp; omega
          rw [hd2]
          clear hd2
          gi_loopw [29] (fun i wr' => ∃ s : Nat, s ≤ 2 ∧ i = .int .i64 (s : Int) ∧ J (outE R a ++ midE a b' ++ innE a b' s) wr' ∧ Ke B0 bx W wr') (fun i _ => 2 - (intOf i).toNat)
          case atStart => exact ⟨0, Nat.zero_le _, rfl, by simp only [innE, List.range_zero, List.map_nil, List.append_nil]; exact hJb, hkb⟩
          case round =>
            obtain ⟨s, hs, rfl, hJs, hks⟩ := hrel
            by_cases hlts : s < 2
            · have HLT : Hid ((outE R a ++ midE a b' ++ innE a b' s).length < (endsL b ps).length) := Lib.hid (by
                rw [HLEN.out, List.length_append, List.length_append, outE_len, midE_len, innE_len]
                have h1 : (a + 1) * ((R + 1) * 2) ≤ (q + 1) * ((R + 1) * 2) := Nat.mul_le_mul_right _ (by omega)
                rw [Nat.add_mul, Nat.one_mul] at h1
                omega)
              have HIN : Hid (EndIn b ps (a, b', s)) := Lib.hid ⟨by rw [HQ.out]; show a ≤ q; omega, by rw [HLN.out, HQ.out, HR.out]; show b' ≤ R; omega, hlts⟩
              obtain ⟨fn, tmps, assign, body, hy, hR⟩ := hY (outE R a ++ midE a b' ++ innE a b' s) (a, b', s) wr hJs HIN.out HLT.out
              dsimp only [encE] at hy
              gi_wp2
              refine ⟨fun h => (by cases h), ?_⟩
              refine hR.mono ?_
              rintro e W' (⟨rfl, h1, h2⟩ | ⟨rfl, h1⟩)
              · gi_wp2
                go_roundw
                case rel =>
                  refine ⟨s + 1, by omega, by go_num, ?_, hks.trans h2⟩
                  rw [innE_succ, ← List.append_assoc]
                  exact h1
                case measure => simp [intOf]; omega
              · gi_wp2
                refine bodyPost_ret (results_none rfl _ _ _) rfl ?_
                exact ⟨⟨_, rfl⟩, .inr ⟨_, trivial, h1⟩⟩
            · obtain rfl : s = 2 := by omega
              gi_wp2
              go_roundw
              case rel =>
                refine ⟨b' + 1, by omega, by go_num, ?_, hks⟩
                rw [midE_succ, ← List.append_assoc]
                exact hJs
              case measure => simp [intOf]; omega
        · obtain rfl : b' = R + 1 := by omega
          gi_wp2
          go_roundw
          case rel =>
            refine ⟨a + 1, by omega, by go_num, ?_, hkb⟩
            rw [outE_succ]
            exact hJb
          case measure => simp [intOf]; omega
    · obtain rfl : a = q + 1 := by omega
      gi_wp2
      go_end0
      exact ⟨⟨_, rfl⟩, .inl ⟨_, rfl, by rw [HEL.out]; exact hJa⟩⟩
end Go.Proofs.Ytaekjnjignlmoaa
