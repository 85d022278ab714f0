/-
  The program: 'sum', with the number 'd:earliest$1'. Printed by gen_sum.py.
-/
import Derived.Test.YtaekjnjignlmoaaSt
import Derived.Test.YtaekjnjignlmoaaJ
namespace Go.Proofs.Ytaekjnjignlmoaa
open Go.RowKit Go.Shelf
attribute [local go_sem] Oper.semAt_some

theorem placeE_in {b : Int} {ps : List (Int × Int)} (hp : Pier b ps) {x y e : Nat} {p : Int} (h : placeE b ps x y e = some p) : 0 ≤ p ∧ p ≤ 1000 := by
  unfold placeE at h
  split at h
  · cases h
    exact hp.begin_
  · split at h
    · cases h
      have := hp.at_ (stopE b ps x y e)
      omega
    · cases h
/-- The least so far, behind s sides. -/
def leastTo (b : Int) (ps : List (Int × Int)) (num : Nat → Nat → Nat → Int) (x y e : Nat) : Nat → Int
  | 0 => -1
  | s + 1 => lessE (leastTo b ps num x y e s) (fromE b ps num x y e s)
theorem leastTo_2 (b : Int) (ps : List (Int × Int)) (num : Nat → Nat → Nat → Int) (x y e : Nat) : leastTo b ps num x y e 2 = leastE b ps num x y e := rfl
theorem fromE_bd {b : Int} {ps : List (Int × Int)} (hp : Pier b ps) {num : Nat → Nat → Nat → Int} (hnb : ∀ x y e, -1 ≤ num x y e ∧ num x y e ≤ 9000) (x y e f : Nat) : -1 ≤ fromE b ps num x y e f ∧ fromE b ps num x y e f ≤ 10000 := by
  refine ⟨fromE_ge, ?_⟩
  unfold fromE
  split
  · omega
  · rename_i p hpl
    split
    · omega
    · have h1 := hnb (x + e - 1) (y - e) f
      have h2 := placeE_in hp hpl
      have h3 := hp.at_ (stopE b ps x y e)
      have h4 := far_bd h2 ⟨h3.1, h3.2.1⟩
      omega
theorem leastTo_bd {b : Int} {ps : List (Int × Int)} (hp : Pier b ps) {num : Nat → Nat → Nat → Int} (hnb : ∀ x y e, -1 ≤ num x y e ∧ num x y e ≤ 9000) (x y e s : Nat) : -1 ≤ leastTo b ps num x y e s ∧ leastTo b ps num x y e s ≤ 10000 := by
  induction s with
  | zero => show -1 ≤ (-1 : Int) ∧ (-1 : Int) ≤ 10000; omega
  | succ s ih =>
    have h := fromE_bd hp hnb x y e s
    unfold leastTo lessE
    split
    · exact ih
    · split <;> omega

set_option maxRecDepth 100000 in
set_option maxHeartbeats 4000000 in
theorem dSumA (g n c pb : Nat) (A : Option Addr) (b : Int) (ps : List (Int × Int)) (w : World) (hw : Wk w w.heap.size g A n c b ps) (HP : Hid (Pier b ps)) (num : Nat → Nat → Nat → Int) (hnb : ∀ x y e, -1 ≤ num x y e ∧ num x y e ≤ 9000)
    (hN : ∀ (V : World) (x y e : Nat), Below w.heap.size w V → x ≤ lefts b ps → y ≤ n - lefts b ps → e < 2 → Calls Try.prog 116 #[.agg #[.int .i64 (x : Int), .int .i64 (y : Int), .int .i64 (e : Int)], .pointer (some ⟨pb, 0, none⟩)] V fun r V' => r = .returned (.int .i64 (num x y e)) ∧ Below V.heap.size V V')
    (x y e : Nat) (hx : x ≤ lefts b ps) (hy : y ≤ n - lefts b ps) (he : e < 2) :
    Calls Try.prog 81 #[.pointer (some ⟨g, 0, none⟩), .agg #[.int .i64 (x : Int), .int .i64 (y : Int), .int .i64 (e : Int)], .func (.func 116) #[] #[.pointer (some ⟨pb, 0, none⟩)]] w fun r w' =>
      (∃ v : Int, r = .returned (.tuple #[.int .i64 v, .bool (decide (0 ≤ sumE b ps num x y e))]) ∧ (0 ≤ sumE b ps num x y e → v = sumE b ps num x y e) ∧ -1 ≤ v ∧ v ≤ 10000) ∧ Below w.heap.size w w' := by
  have HLN := Lib.hid hw.rp.len
  have hn10 : n ≤ 10 := by have := HP.out.hi; have := HLN.out; omega
  have hq := lefts_le b ps
  rw [HLN.out] at hq
  have hxy : x ≤ 20 ∧ y ≤ 20 := by omega
  obtain ⟨hx20, hy20⟩ := hxy
  have HX := Lib.hid hx
  have HY := Lib.hid hy
  have HE := Lib.hid he
  have HNB := Lib.hid hnb
  have HN := Lib.hid hN
  clear hnb hN
  have hb1 := (Below.refl _ w).alloc (Nat.le_refl _) (.cells #[.int .i64 (x : Int), .int .i64 (y : Int), .int .i64 (e : Int)] 107)
  have hbk := Bk.new w 107 #[.int .i64 (x : Int), .int .i64 (y : Int), .int .i64 (e : Int)]
  have hc0 := hbk.cell 0
  have hc1 := hbk.cell 1
  have hc2 := hbk.cell 2
  have hw1 := hw.below hb1
  have hwz : IntKind.i64.wrap ((x : Int) + (y : Int)) = (x : Int) + (y : Int) := IntWalk.i64_in _ (by omega)
  obtain ⟨z, hz⟩ : ∃ z : Int, (x : Int) + (y : Int) = z := ⟨_, rfl⟩
  have HZ := Lib.hid hz
  rw [hz] at hwz
  have hwz' : IntKind.i64.wrap ((x : Int) + (y : Int)) = z := by rw [hz]; exact hwz
  clear hz hwz
  by_cases h0 : z = 0
  · have HPL : Hid (sumE b ps num x y e = 0) := Lib.hid (by unfold sumE; rw [if_pos (by have := HZ.out; omega)])
    subst h0
    clear hx hy he
    go_enter Try.func81, Try.ntmps81
    go_wp2
    go_ret2
    exact ⟨⟨0, by rw [HPL.out]; rfl, fun _ => HPL.out.symm, by omega, by omega⟩, hb1⟩
  · have HPL : Hid (sumE b ps num x y e = if isE x y e then (if too ps (stopE b ps x y e) < leastE b ps num x y e then -1 else leastE b ps num x y e) else -1) := Lib.hid (by unfold sumE; rw [if_neg (by have := HZ.out; omega)])
    clear hx hy he
    go_enter Try.func81, Try.ntmps81
    go_wp2_with fail
    refine (dStop g n c A b ps _ (hw1.more hb1.size) HP x y e HX.out HY.out HE.out).mono ?_
    rintro r w2 ⟨⟨i, rfl, hi, hi0, hi1⟩, hb2⟩
    have hb3 := hb1.trans (hb2.mono hb1.size)
    cases hh : isE x y e with
    | false =>
      have HPL2 : Hid (sumE b ps num x y e = -1) := Lib.hid (by rw [HPL.out, hh]; rfl)
      go_wp2
      go_ret2
      exact ⟨⟨0, by rw [HPL2.out]; rfl, fun h => absurd h (by rw [HPL2.out]; decide), by omega, by omega⟩, hb3⟩
    | true =>
      have hlt := stopE_lt (b := b) (ps := ps) HX.out (by rw [HLN.out]; exact HY.out) HE.out hh
      obtain rfl := hi hh
      have HPL2 : Hid (sumE b ps num x y e = if too ps (stopE b ps x y e) < leastTo b ps num x y e 2 then -1 else leastTo b ps num x y e 2) := Lib.hid (by rw [HPL.out, hh, if_pos rfl]; rfl)
      have hpre := prev_sum HE.out hh
      have hx' : x + e - 1 ≤ lefts b ps := by have := HX.out; have := HE.out; have := HY.out; unfold isE at hh; split at hh <;> simp at hh <;> omega
      have hy' : y - e ≤ n - lefts b ps := by have := HY.out; omega
      have hxi : (x : Int) - 1 + (e : Int) = ((x + e - 1 : Nat) : Int) := by have := HE.out; unfold isE at hh; split at hh <;> simp at hh <;> omega
      have hyi : (y : Int) - (e : Int) = ((y - e : Nat) : Int) := by have := HE.out; unfold isE at hh; split at hh <;> simp at hh <;> omega
      have HXP := Lib.hid hx'
      have HYP := Lib.hid hy'
      have HISE := Lib.hid hh
      have he2 : e < 2 := HE.out
      have v1 : IntKind.i64.wrap ((x : Int) - 1) = (x : Int) - 1 := IntWalk.i64_in _ (by omega)
      have v2 : IntKind.i64.wrap ((x : Int) - 1 + (e : Int)) = ((x + e - 1 : Nat) : Int) := by rw [IntWalk.i64_in _ (by omega)]; exact hxi
      have v3 : IntKind.i64.wrap ((y : Int) - (e : Int)) = ((y - e : Nat) : Int) := by rw [IntWalk.i64_in _ (by omega)]; exact hyi
      clear hpre hx' hy' hxi hyi hh hi he2
      obtain ⟨x', HX'⟩ : ∃ x', Hid (x + e - 1 = x') := ⟨_, Lib.hid rfl⟩
      obtain ⟨y', HY'⟩ : ∃ y', Hid (y - e = y') := ⟨_, Lib.hid rfl⟩
      rw [HX'.out] at v2 HXP
      rw [HY'.out] at v3 HYP
      obtain ⟨k, HK⟩ : ∃ k, Hid (stopE b ps x y e = k) := ⟨_, Lib.hid rfl⟩
      rw [HK.out] at hlt HPL2 hi0 hi1 ⊢
      rw [HLN.out] at hlt
      have hw3 := hw1.below (hb2.mono hb1.size)
      obtain ⟨ad, rfl, hadb, c1, c2⟩ := hw3.rp.at2 hlt
      obtain ⟨q, HQ⟩ : ∃ v, Hid (plc ps k = v) := ⟨_, Lib.hid rfl⟩
      obtain ⟨t, HT⟩ : ∃ v, Hid (too ps k = v) := ⟨_, Lib.hid rfl⟩
      have hqt := HP.out.at_ k
      rw [HQ.out, HT.out] at hqt
      rw [HQ.out] at c1
      rw [HT.out] at c2 HPL2
      have k1 := hw3.c1
      have hbk3 : Bk w2 w.heap.size 107 #[.int .i64 (x : Int), .int .i64 (y : Int), .int .i64 (e : Int)] := hbk.below hb2 (by simp)
      go_wp2
      go_loopw [10, 30] (fun m i wr => ∃ s : Nat, s ≤ 2 ∧ i = .int .i64 (s : Int) ∧ m = .int .i64 (leastTo b ps num x y e s) ∧ Below w2.heap.size w2 wr) (fun _ i _ => 2 - (intOf i).toNat)
      case atStart => exact ⟨0, Nat.zero_le _, rfl, rfl, Below.refl _ _⟩
      case round =>
        obtain ⟨s, hs, rfl, rfl, hbr⟩ := hrel
        obtain ⟨m, HM⟩ : ∃ m, Hid (leastTo b ps num x y e s = m) := ⟨_, Lib.hid rfl⟩
        have hmb := leastTo_bd HP.out HNB.out x y e s
        rw [HM.out] at hmb ⊢
        have hw4 := hw3.below (hbr.mono hb3.size)
        have k1 := hw4.c1
        obtain ⟨ad2, hA2, _, d1, d2⟩ := hw4.rp.at2 hlt
        obtain rfl : ad = ad2 := Option.some.inj hA2
        rw [HQ.out] at d1
        rw [HT.out] at d2
        have hbk4 := hbk3.below hbr hbk3.lt
        have e0 : wr.cell? ⟨w.heap.size, 0, none⟩ = some (.int .i64 (x : Int)) := hbk4.cell 0
        have e1 : wr.cell? ⟨w.heap.size, 1, none⟩ = some (.int .i64 (y : Int)) := hbk4.cell 1
        have e2 : wr.cell? ⟨w.heap.size, 2, none⟩ = some (.int .i64 (e : Int)) := hbk4.cell 2
        have hb4 : Below w.heap.size w wr := hb3.trans (hbr.mono hb3.size)
        by_cases hlts : s < 2
        · have HSU : Hid (leastTo b ps num x y e (s + 1) = lessE m (fromE b ps num x y e s)) := Lib.hid (by rw [leastTo, HM.out])
          have hbF := Bk.new wr 107 #[.int .i64 (x' : Int), .int .i64 (y' : Int), .int .i64 (s : Int)]
          have hb5 := hbr.alloc hbr.size (.cells #[.int .i64 (x' : Int), .int .i64 (y' : Int), .int .i64 (s : Int)] 107)
          have hb5w := hb4.alloc hb4.size (.cells #[.int .i64 (x' : Int), .int .i64 (y' : Int), .int .i64 (s : Int)] 107)
          have hw5 := hw4.below (((Below.refl _ wr).alloc (Nat.le_refl _) (.cells #[.int .i64 (x' : Int), .int .i64 (y' : Int), .int .i64 (s : Int)] 107)).mono hb4.size)
          have f0 := hbF.cell 0
          have f1 := hbF.cell 1
          have f2 := hbF.cell 2
          go_wp2_with fail
          refine (dPlace g n c (some ad) b ps _ (hw5.more (by have := hb4.size; simp; omega)) HP x' y' s HXP.out HYP.out hlts).mono ?_
          rintro r w6 ⟨rfl, hb6⟩
          have hbF6 := hbF.below hb6 hbF.lt
          have hb5' := hb5.trans (hb6.mono hb5.size)
          have hb5w' := hb5w.trans (hb6.mono hb5w.size)
          have hw6 := hw5.below (hb6.mono hb5w.size)
          cases hpl : placeE b ps x' y' s with
          | none =>
            have HF : Hid (leastTo b ps num x y e (s + 1) = m) := Lib.hid (by rw [HSU.out]; unfold fromE; rw [HX'.out, HY'.out, hpl]; rfl)
            clear f0 f1 f2
            go_wp2
            go_roundw
            case rel => exact ⟨s + 1, by omega, by go_num, by rw [HF.out], hb5'⟩
            case measure => simp [intOf]; omega
          | some p =>
            have hp1 := placeE_in HP.out hpl
            have HPLC := Lib.hid hpl
            clear hpl
            obtain ⟨u, HU⟩ : ∃ u, Hid (num x' y' s = u) := ⟨_, Lib.hid rfl⟩
            have hub := HNB.out x' y' s
            rw [HU.out] at hub
            have g0 : w6.cell? ⟨wr.heap.size, 0, none⟩ = some (.int .i64 (x' : Int)) := hbF6.cell 0
            have g1 : w6.cell? ⟨wr.heap.size, 1, none⟩ = some (.int .i64 (y' : Int)) := hbF6.cell 1
            have g2 : w6.cell? ⟨wr.heap.size, 2, none⟩ = some (.int .i64 (s : Int)) := hbF6.cell 2
            have hcall := HN.out w6 x' y' s hb5w' HXP.out HYP.out hlts
            rw [HU.out] at hcall
            clear f0 f1 f2
            dsimp only [Option.isSome, Option.getD]
            go_wp2_with fail
            refine hcall.mono ?_
            rintro r w7 ⟨rfl, hb7⟩
            clear hcall
            have hbF7 := hbF6.below hb7 hbF6.lt
            have hb7' := hb5'.trans (hb7.mono hb5'.size)
            have hb7w := hb5w'.trans (hb7.mono hb5w'.size)
            have hw7 := hw6.below (hb7.mono hb5w'.size)
            by_cases hu : u < 0
            · have HF : Hid (leastTo b ps num x y e (s + 1) = m) := Lib.hid (by rw [HSU.out]; unfold fromE; rw [HX'.out, HY'.out, HPLC.out]; simp only; rw [HU.out, if_pos hu]; rfl)
              go_wp2
              go_roundw
              case rel => exact ⟨s + 1, by omega, by go_num, by rw [HF.out], hb7'⟩
              case measure => simp [intOf]; omega
            · obtain ⟨o, HO⟩ : ∃ o, Hid (u + far p q = o) := ⟨_, Lib.hid rfl⟩
              have hfb := far_bd hp1 (b := q) ⟨hqt.1, hqt.2.1⟩
              obtain ⟨fa, HFA⟩ : ∃ fa, Hid (far p q = fa) := ⟨_, Lib.hid rfl⟩
              rw [HFA.out] at HO hfb
              have hwo : IntKind.i64.wrap (u + fa) = o := by rw [← HO.out]; exact IntWalk.i64_in _ (by omega)
              have hou : 0 ≤ o ∧ o ≤ 10000 := by have := HO.out; omega
              have HF : Hid (leastTo b ps num x y e (s + 1) = lessE m o) := Lib.hid (by rw [HSU.out]; unfold fromE; rw [HX'.out, HY'.out, HPLC.out]; simp only; rw [HU.out, if_neg hu, HK.out, HQ.out, HFA.out, HO.out])
              have hmix : Try.prog.follows .mixedOrders = true := by kernel_rfl
              have hw7d : Wk w7.drew w.heap.size g (some ad) n c b ps := ⟨hw7.bk, hw7.lt, hw7.rp, hw7.cap⟩
              have hbF7d := hbF7.drew
              have hbd7 : Below w.heap.size w w7.drew := below_drewN hb7w 1
              have hcall := HN.out w7.drew x' y' s hbd7 HXP.out HYP.out hlts
              rw [HU.out] at hcall
              obtain ⟨ad3, hA3, had3, i1, i2⟩ := hw7d.rp.at2 hlt
              obtain rfl : ad = ad3 := Option.some.inj hA3
              rw [HQ.out] at i1
              have hfar := fun V => fFar p q V ⟨hp1.1, by omega⟩ ⟨hqt.1, by omega⟩
              rw [HFA.out] at hfar
              have HFAR := Lib.hid hfar
              have HCALL := Lib.hid hcall
              clear hcall hfar
              go_wp2
              refine wp_region_held_drew (S := fun V => V.cell? ⟨wr.heap.size, 0, none⟩ = some (.int .i64 (x' : Int)) ∧ V.cell? ⟨wr.heap.size, 1, none⟩ = some (.int .i64 (y' : Int)) ∧ V.cell? ⟨wr.heap.size, 2, none⟩ = some (.int .i64 (s : Int)) ∧ V.cell? ⟨g, 1, none⟩ = some (.slice (some ad) n c) ∧ V.cell? (ad.add (k * 2)) = some (.int .i64 q)) hmix ⟨hbF7d.cell 0, hbF7d.cell 1, hbF7d.cell 2, hw7d.c1, i1⟩ (fun hS => ?_)
              refine wpAnyH_take (i := 0) (v := ?_) rfl (by kernel_rfl) (by kernel_rfl) (by kernel_rfl) (fun _ _ _ h => h) (Or.inl ⟨by rfl, ?_⟩) hS ?_
              rotate_left
              · intro w hSw
                (try dsimp only at hSw)
                go_simp
                (try with_reducible rfl)
              try simp (maxSteps := 10000000) only [Act.put, List.setIfInBounds_toArray, List.set_cons_zero, List.set_cons_succ, List.getElem_toArray, List.getElem_cons_zero]
              refine wpAnyH_take (i := 1) (v := ?_) rfl (by kernel_rfl) (by kernel_rfl) (by kernel_rfl) (fun _ _ _ h => h) (Or.inl ⟨by rfl, ?_⟩) hS ?_
              rotate_left
              · intro w hSw
                (try dsimp only at hSw)
                go_simp
                (try with_reducible rfl)
              try simp (maxSteps := 10000000) only [Act.put, List.setIfInBounds_toArray, List.set_cons_zero, List.set_cons_succ, List.getElem_toArray, List.getElem_cons_zero, List.getElem_cons_succ]
              refine wpAnyH_take (i := 3) (v := ?_) rfl (by kernel_rfl) (by kernel_rfl) (by kernel_rfl) (fun _ _ _ h => h) (Or.inl ⟨by rfl, ?_⟩) hS ?_
              rotate_left
              · intro w hSw
                (try dsimp only at hSw)
                go_simp
                (try with_reducible rfl)
              try simp (maxSteps := 10000000) only [Act.put, List.setIfInBounds_toArray, List.set_cons_zero, List.set_cons_succ, List.getElem_toArray, List.getElem_cons_zero, List.getElem_cons_succ]
              refine wpAnyH_take (i := 4) (v := ?_) rfl (by kernel_rfl) (by kernel_rfl) (by kernel_rfl) (fun _ _ _ h => h) (Or.inl ⟨by rfl, ?_⟩) hS ?_
              rotate_left
              · intro w hSw
                (try dsimp only at hSw)
                go_simp
                (try with_reducible rfl)
              try simp (maxSteps := 10000000) only [Act.put, List.setIfInBounds_toArray, List.set_cons_zero, List.set_cons_succ, List.getElem_toArray, List.getElem_cons_zero, List.getElem_cons_succ]
              refine wpAnyH_take (i := 5) (v := ?_) rfl (by kernel_rfl) (by kernel_rfl) (by kernel_rfl) (fun _ _ _ h => h) (Or.inl ⟨by rfl, ?_⟩) hS ?_
              rotate_left
              · intro w hSw
                (try dsimp only at hSw)
                go_simp
                (try with_reducible rfl)
              try simp (maxSteps := 10000000) only [Act.put, List.setIfInBounds_toArray, List.set_cons_zero, List.set_cons_succ, List.getElem_toArray, List.getElem_cons_zero, List.getElem_cons_succ]
              refine wpAnyH_take (i := 6) (v := ?_) rfl (by kernel_rfl) (by kernel_rfl) (by kernel_rfl) (fun _ _ _ h => h) (Or.inl ⟨by rfl, ?_⟩) hS ?_
              rotate_left
              · intro w hSw
                (try dsimp only at hSw)
                go_simp
                (try with_reducible rfl)
              try simp (maxSteps := 10000000) only [Act.put, List.setIfInBounds_toArray, List.set_cons_zero, List.set_cons_succ, List.getElem_toArray, List.getElem_cons_zero, List.getElem_cons_succ]
              refine wpAnyH_take (i := 7) (v := ?_) rfl (by kernel_rfl) (by kernel_rfl) (by kernel_rfl) (fun _ _ _ h => h) (Or.inl ⟨by rfl, ?_⟩) hS ?_
              rotate_left
              · intro w hSw
                (try dsimp only at hSw)
                go_simp
                (try with_reducible rfl)
              try simp (maxSteps := 10000000) only [Act.put, List.setIfInBounds_toArray, List.set_cons_zero, List.set_cons_succ, List.getElem_toArray, List.getElem_cons_zero, List.getElem_cons_succ]
              refine wpAnyH_take (i := 8) (v := ?_) rfl (by kernel_rfl) (by kernel_rfl) (by kernel_rfl) (fun _ _ _ h => h) (Or.inl ⟨by rfl, ?_⟩) hS ?_
              rotate_left
              · intro w hSw
                (try dsimp only at hSw)
                go_simp
                (try with_reducible rfl)
              try simp (maxSteps := 10000000) only [Act.put, List.setIfInBounds_toArray, List.set_cons_zero, List.set_cons_succ, List.getElem_toArray, List.getElem_cons_zero, List.getElem_cons_succ]
              refine wpAnyH_take (i := 9) (v := ?_) rfl (by kernel_rfl) (by kernel_rfl) (by kernel_rfl) (fun _ _ _ h => h) (Or.inl ⟨by rfl, ?_⟩) hS ?_
              rotate_left
              · intro w hSw
                (try dsimp only at hSw)
                go_simp
                (try with_reducible rfl)
              try simp (maxSteps := 10000000) only [Act.put, List.setIfInBounds_toArray, List.set_cons_zero, List.set_cons_succ, List.getElem_toArray, List.getElem_cons_zero, List.getElem_cons_succ]
              refine wpAnyH_take (i := 10) (v := ?_) rfl (by kernel_rfl) (by kernel_rfl) (by kernel_rfl) (fun _ _ _ h => h) (Or.inl ⟨by rfl, ?_⟩) hS ?_
              rotate_left
              · intro w hSw
                (try dsimp only at hSw)
                go_simp
                (try with_reducible rfl)
              try simp (maxSteps := 10000000) only [Act.put, List.setIfInBounds_toArray, List.set_cons_zero, List.set_cons_succ, List.getElem_toArray, List.getElem_cons_zero, List.getElem_cons_succ]
              refine wpAnyH_take (i := 11) (v := ?_) rfl (by kernel_rfl) (by kernel_rfl) (by kernel_rfl) (fun _ _ _ h => h) (Or.inl ⟨by rfl, ?_⟩) hS ?_
              rotate_left
              · intro w hSw
                (try dsimp only at hSw)
                go_simp
                (try with_reducible rfl)
              try simp (maxSteps := 10000000) only [Act.put, List.setIfInBounds_toArray, List.set_cons_zero, List.set_cons_succ, List.getElem_toArray, List.getElem_cons_zero, List.getElem_cons_succ]
              refine wpAnyH_take (i := 12) (v := ?_) rfl (by kernel_rfl) (by kernel_rfl) (by kernel_rfl) (fun _ _ _ h => h) (Or.inl ⟨by rfl, ?_⟩) hS ?_
              rotate_left
              · intro w hSw
                (try dsimp only at hSw)
                go_simp
                (try with_reducible rfl)
              try simp (maxSteps := 10000000) only [Act.put, List.setIfInBounds_toArray, List.set_cons_zero, List.set_cons_succ, List.getElem_toArray, List.getElem_cons_zero, List.getElem_cons_succ]
              refine wpAnyH_ready (rs := [2]) (by kernel_rfl) (by simp) ?_
              refine AllReadyH.cons rfl (fun K hK => ?_) AllReadyH.nil
              go_simp
              refine HCALL.out.mono ?_
              rintro r w8 ⟨rfl, hb8⟩
              have hw8 := hw7d.below (hb8.mono hbd7.size)
              obtain ⟨ad4, hA4, _, j1, _⟩ := hw8.rp.at2 hlt
              obtain rfl : ad = ad4 := Option.some.inj hA4
              rw [HQ.out] at j1
              refine hK.out _ _ ⟨(hbF7d.below hb8 hbF7d.lt).cell 0, (hbF7d.below hb8 hbF7d.lt).cell 1, (hbF7d.below hb8 hbF7d.lt).cell 2, hw8.c1, j1⟩ (fun hS => ?_)
              clear hK K
              try simp (maxSteps := 10000000) only [Act.put, List.setIfInBounds_toArray, List.set_cons_zero, List.set_cons_succ, List.getElem_toArray, List.getElem_cons_zero, List.getElem_cons_succ]
              refine wpAnyH_ready (rs := [13]) (by kernel_rfl) (by simp) ?_
              refine AllReadyH.cons rfl (fun K hK => ?_) AllReadyH.nil
              go_simp
              refine (HFAR.out _).mono ?_
              rintro r _ ⟨rfl, rfl⟩
              refine hK.out _ _ hS (fun hS => ?_)
              clear hK K
              try simp (maxSteps := 10000000) only [Act.put, List.setIfInBounds_toArray, List.set_cons_zero, List.set_cons_succ, List.getElem_toArray, List.getElem_cons_zero, List.getElem_cons_succ]
              refine wpAnyH_take (i := 14) (v := ?_) rfl (by kernel_rfl) (by kernel_rfl) (by kernel_rfl) (fun _ _ _ h => h) (Or.inl ⟨by rfl, ?_⟩) hS ?_
              rotate_left
              · intro w hSw
                (try dsimp only at hSw)
                go_simp
                (try with_reducible rfl)
              try simp (maxSteps := 10000000) only [Act.put, List.setIfInBounds_toArray, List.set_cons_zero, List.set_cons_succ, List.getElem_toArray, List.getElem_cons_zero, List.getElem_cons_succ]
              refine wpAnyH_take (i := 15) (v := ?_) rfl (by kernel_rfl) (by kernel_rfl) (by kernel_rfl) (fun _ _ _ h => h) (Or.inl ⟨by rfl, ?_⟩) hS ?_
              rotate_left
              · intro w hSw
                (try dsimp only at hSw)
                go_simp
                (try with_reducible rfl)
              try simp (maxSteps := 10000000) only [Act.put, List.setIfInBounds_toArray, List.set_cons_zero, List.set_cons_succ, List.getElem_toArray, List.getElem_cons_zero, List.getElem_cons_succ]
              refine wpAnyH_done (by kernel_rfl) ?_ _
              have hb8' : Below w2.heap.size w2 w8 := (below_drewN hb7' 1).trans (hb8.mono hb7'.size)
              by_cases hm : m < 0
              · have HF2 : Hid (leastTo b ps num x y e (s + 1) = o) := Lib.hid (by rw [HF.out]; unfold lessE; rw [if_neg (by omega), if_pos (by omega)])
                go_wp2
                go_roundw
                case rel => exact ⟨s + 1, by omega, by go_num, by rw [HF2.out], hb8'⟩
                case measure => simp [intOf]; omega
              · by_cases ho : o < m
                · have HF2 : Hid (leastTo b ps num x y e (s + 1) = o) := Lib.hid (by rw [HF.out]; unfold lessE; rw [if_neg (by omega), if_pos (by omega)])
                  go_wp2
                  go_roundw
                  case rel => exact ⟨s + 1, by omega, by go_num, by rw [HF2.out], hb8'⟩
                  case measure => simp [intOf]; omega
                · have HF2 : Hid (leastTo b ps num x y e (s + 1) = m) := Lib.hid (by rw [HF.out]; unfold lessE; rw [if_neg (by omega), if_neg (by omega)])
                  go_wp2
                  go_roundw
                  case rel => exact ⟨s + 1, by omega, by go_num, by rw [HF2.out], hb8'⟩
                  case measure => simp [intOf]; omega
        · obtain rfl : s = 2 := by omega
          have hlit := (Oi.lit1 wr m).ri
          obtain ⟨r1, HR1⟩ : ∃ r, Hid ([m].any (outB 0 t) = r) := ⟨_, Lib.hid rfl⟩
          have HRB : Hid ((!r1) = decide (0 ≤ sumE b ps num x y e)) := Lib.hid (by
            rw [← HR1.out, HPL2.out, HM.out]
            simp only [List.any_cons, List.any_nil, Bool.or_false, outB]
            by_cases h1 : t < m
            · rw [if_pos h1]; simp [h1]
            · rw [if_neg h1]
              by_cases h2 : m < 0
              · simp [h2] <;> omega
              · simp [h1, h2] <;> omega)
          have HRE : Hid (0 ≤ sumE b ps num x y e → m = sumE b ps num x y e) := Lib.hid (by
            rw [HPL2.out, HM.out]
            split
            · omega
            · intro _; rfl)
          go_wp2_with fail
          refine (fWithin _ _ _ _ _ _ _ hlit (by omega) _ HR1).mono ?_
          rintro r w9 ⟨rfl, hb9, hs9⟩
          clear hs9
          have hb10 : Below w.heap.size w w9 := (hb4.alloc hb4.size _).trans (hb9.mono (by have := hb4.size; simp; omega))
          go_wp2
          go_ret2
          exact ⟨⟨m, by rw [← HRB.out]; rfl, HRE.out, hmb.1, hmb.2⟩, hb10⟩
end Go.Proofs.Ytaekjnjignlmoaa
