/-
  The reference: 'goOn', 'All'.
-/
import Derived.Test.YtaekjnjignlmoaaR2
namespace Go.Proofs.Ytaekjnjignlmoaa
open Go.RowKit Go.Shelf

theorem row_bk {w : World} {base m g c : Nat} {L : List Int} (h : Oj w base (some ⟨g, 0, none⟩) m c L) : ∃ cs, Bk w g 3 cs := by
  rcases h.2 with ⟨h1, _⟩ | ⟨g', cap', cur, h1, _, h2, _⟩
  · cases h1
  · have hA : (some ⟨g, 0, none⟩ : Option Addr) = some ⟨g', 0, none⟩ := by injection h1
    cases hA
    exact ⟨_, h2⟩
/-- Rows whose list lies from block ob on, the rows from base on. -/
def RR2 (w : World) (ob base : Nat) (A : Option Addr) (n c m : Nat) (Ls : List (List Int)) : Prop := ∃ vs, Oojj w ob A n c vs ∧ Rowsj_ w base m vs Ls
section
variable {w w' : World} {ob base n c m : Nat} {A : Option Addr} {Ls : List (List Int)}
theorem RR2.len (h : RR2 w ob base A n c m Ls) : Ls.length = n := by
  obtain ⟨vs, h1, h2⟩ := h
  have := h1.1
  rw [Nat.mul_one] at this
  rw [← h2.1, this]
theorem RR2.below (h : RR2 w ob base A n c m Ls) (hb : Below w.heap.size w w') : RR2 w' ob base A n c m Ls := by
  obtain ⟨vs, h1, h2⟩ := h
  exact ⟨vs, h1.below hb, h2.mono fun g c L h => h.below hb⟩
theorem RR2.alloc (h : RR2 w ob base A n c m Ls) (o : Obj) : RR2 (w.alloc o) ob base A n c m Ls := by
  obtain ⟨vs, h1, h2⟩ := h
  exact ⟨vs, h1.alloc o, h2.mono fun g c L h => h.alloc o⟩
theorem RR2.lt (h : RR2 w ob base A n c m Ls) (k : Nat) (hk : A.map Addr.block = some k) : ob ≤ k ∧ k < w.heap.size := by
  obtain ⟨vs, h1, _⟩ := h
  exact World.ownsRow.lt h1 k (by cases A <;> simp_all [Value.ownBlock])
theorem RR2.base_ {ob' : Nat} (h : RR2 w ob base A n c m Ls) (hB : ob' ≤ ob) : RR2 w ob' base A n c m Ls := by
  obtain ⟨vs, h1, h2⟩ := h
  exact ⟨vs, own_base h1 hB, h2⟩
theorem RR2.inner {base' : Nat} (h : RR2 w ob base A n c m Ls) (hB : base' ≤ base) : RR2 w ob base' A n c m Ls := by
  obtain ⟨vs, h1, h2⟩ := h
  exact ⟨vs, h1, h2.1, fun i L hL => by
    obtain ⟨g, c', h3, h4⟩ := h2.2 i L hL
    exact ⟨g, c', h3, h4.base hB⟩⟩
theorem RR2.rrj (h : RR2 w ob base A n c m Ls) (hB : base ≤ ob) : RRj w base A n c m Ls := h.base_ hB
theorem RR2.nil_ (w : World) (ob base m : Nat) : RR2 w ob base none 0 0 m [] := ⟨[], World.ownsRow_nil _ _ _ _, rfl, fun i L h => by simp at h⟩
end
theorem RR2.lit0 (w : World) (base m : Nat) : RR2 (w.alloc (.cells #[] 25)) w.heap.size base (some ⟨w.heap.size, 0, none⟩) 0 0 m [] :=
  ⟨[], World.ownsRow_lit w #[] 0 (Nat.le_refl _) (by decide) rfl, rfl, fun i L h => by simp at h⟩
theorem RR2.lit1 {w : World} {base g m c : Nat} {L : List Int} (h : Oj w base (some ⟨g, 0, none⟩) m c L) : RR2 (w.alloc (.cells #[.slice (some ⟨g, 0, none⟩) m c] 25)) w.heap.size base (some ⟨w.heap.size, 0, none⟩) 1 1 m [L] :=
  ⟨[.slice (some ⟨g, 0, none⟩) m c], World.ownsRow_lit w #[.slice (some ⟨g, 0, none⟩) m c] 1 (Nat.le_refl _) (by decide) rfl, rfl, fun i L' hL => by
    match i, hL with
    | 0, hL =>
      simp at hL
      subst hL
      exact ⟨g, c, rfl, h.alloc _⟩⟩
/-- 'out = append(out, rows...)'. -/
theorem push_rowsj {w : World} {ops : Array Oper} {rest : List Oper} {o : Oper} {a : Act} {Q : Exit → Act → World → Prop} (hgd : o.guard = none) (s x : Operand)
    (ho : o.op = .call { callee := .builtin .append, args := #[s, x], argTypes := #[61, 61] })
    (ob base : Nat) (A : Option Addr) (n c m : Nat) (Ls : List (List Int)) (hs : a.eval s = .slice A n c) (hown : RR2 w ob base A n c m Ls)
    (ob2 : Nat) (D : Option Addr) (m2 c2 : Nat) (Ms : List (List Int)) (hx : a.eval x = .slice D m2 c2) (hrows : RR2 w ob2 base D m2 c2 m Ms) (hlen : n < 1048576) (hlen2 : m2 < 1048576) (hbase : ob ≤ w.heap.size)
    (h : ∀ A' cap w', RR2 w' ob base A' (n + m2) cap m (Ls ++ Ms) → w.grownBy w' (A.map Addr.block) → wpList Try.prog ops Q rest (a.put o.dst (.slice A' (n + m2) cap)) w') : wpList Try.prog ops Q (o :: rest) a w := by
  obtain ⟨i0, hi, hz0, hz1, hz2⟩ := info_parts info_rowj
  have hll := hown.len
  have hlm := hrows.len
  obtain ⟨vs, h1, h2⟩ := hown
  obtain ⟨us, g1, g2⟩ := hrows
  have hv1 : vs.length = n := by rw [h2.1]; exact hll
  have hu1 : us.length = m2 := by rw [g2.1]; exact hlm
  rcases D with _ | ad
  · have hm0 : m2 = 0 := by
      rcases g1.2 with ⟨_, h0⟩ | ⟨g', cap', cur, h0, _⟩
      · exact h0
      · cases h0
    subst hm0
    have hMs : Ms = [] := List.eq_nil_of_length_eq_zero hlm
    subst hMs
    refine wpList_plain hgd fun K hK => ?_
    have hrun := run_append_none (P := Try.prog) w ob _ o.type _ i0 1 under_rowsj hi (.slice A n c) n vs h1 c2
    unfold Oper.wp
    simp only [execOp, ho, resolve, invoke]
    simp [builtin, hs, hx, hrun, Result.andThen]
    exact hK _ _ (h A c w ⟨vs, by simpa using h1, by simpa using h2⟩ (World.grownBy.refl w _))
  · have hm : n + m2 ≤ maxLen := by unfold maxLen; omega
    obtain ⟨gd, hgd2⟩ : ∃ gd, ad = ⟨gd, 0, none⟩ := by
      rcases g1.2 with ⟨h0, _⟩ | ⟨g', cap', cur, h0, _⟩
      · cases h0
      · have hA : (some ad) = some ⟨g', 0, none⟩ := by injection h0
        exact ⟨g', Option.some.inj hA⟩
    subst hgd2
    refine wpList_append_own w hgd s x _ ho ob _ i0 _ 1 24 under_rowsj hi hz0 hz1 hz2 rfl (by decide) _ n vs hs h1 ⟨gd, 0, none⟩ m2 c2 us hx (by rw [hu1, Nat.mul_one]) ?_ ?_ hm (by omega) hbase ?_
    · intro j u hj
      have h3 := World.ownsRow.cellAt g1 j (by rw [Nat.mul_one, ← hu1]; exact (List.getElem?_eq_some_iff.1 hj).1)
      rw [add_lit0, h3]
      exact hj
    · intro u hu
      obtain ⟨j, hj, rfl⟩ := List.getElem_of_mem hu
      obtain ⟨g3, c3, h3, _⟩ := g2.2 j Ms[j] (List.getElem?_eq_getElem (by rw [← g2.1]; exact hj))
      rw [List.getElem?_eq_getElem hj] at h3
      rw [Option.some.inj h3]
      simp [Value.oneCell']
    · intro v' w' hown' hgrow _
      have hv : ∃ A' cap, v' = .slice A' (n + m2) cap := by
        rcases hown'.2 with ⟨rfl, h0⟩ | ⟨g, cap, cur, rfl, _⟩
        · exact ⟨none, 0, by rw [h0]⟩
        · exact ⟨_, cap, rfl⟩
      obtain ⟨A', cap, rfl⟩ := hv
      have hgr : w.grownBy w' (A.map Addr.block) := by cases A <;> exact hgrow
      refine h A' cap w' ⟨_, hown', ?_⟩ hgr
      have hk : ∀ (g c' : Nat) (L : List Int), Oj w base (some ⟨g, 0, none⟩) m c' L → Oj w' base (some ⟨g, 0, none⟩) m c' L := fun g c' L hO => by
        refine hO.kept hgr ?_
        rcases own_ne hO h1 (by decide) with h3 | h3
        · exact .inl h3
        · refine .inr fun e => h3 ?_
          cases A with
          | none => simp at e
          | some ad => simpa [Value.ownBlock] using e
      refine ⟨by simp [h2.1, g2.1], fun i L' hL => ?_⟩
      rcases Nat.lt_or_ge i Ls.length with hi3 | hi3
      · rw [List.getElem?_append_left hi3] at hL
        obtain ⟨g1', c1', h5, h6⟩ := h2.2 i L' hL
        exact ⟨g1', c1', by rw [List.getElem?_append_left (by rw [h2.1]; exact hi3)]; exact h5, hk _ _ _ h6⟩
      · rw [List.getElem?_append_right hi3] at hL
        obtain ⟨g1', c1', h5, h6⟩ := g2.2 (i - Ls.length) L' hL
        exact ⟨g1', c1', by rw [List.getElem?_append_right (by rw [h2.1]; exact hi3), h2.1]; exact h5, hk _ _ _ h6⟩
/-- What a call that returns rows comes to. -/
def RetRR (w : World) (base N m : Nat) (Ls : List (List Nat)) (e : Ending) (w' : World) : Prop := ∃ (A : Option Addr) (c : Nat), e = .returned (.slice A N c) ∧ RR2 w' w.heap.size base A N c m (Ls.map ofN) ∧ Below w.heap.size w w'
set_option maxRecDepth 100000 in
set_option maxHeartbeats 8000000 in
theorem rGoOn (n base : Nat) (hn : n ≤ 10) : ∀ (f lo hi k : Nat) (begun : List Nat) (D : Option Addr) (cc : Nat) (w : World), f = lo + (n - hi) → hi ≤ n → lo ≤ n → k + f = n → 1 ≤ n → Oj w base D k cc (ofN begun) → base ≤ w.heap.size → ∀ (N : Nat), Hid ((genR n f lo hi).length = N) →
    Calls Try.prog 110 #[.int .i64 (n : Int), .int .i64 (lo : Int), .int .i64 (hi : Int), .slice D k cc] w (RetRR w base N n ((genR n f lo hi).map (begun ++ ·))) := by
  intro f
  induction f with
  | zero =>
    intro lo hi k begun D cc w hf hhi hlo hk hn1 ho hb N HN
    have HG : Hid ((genR n 0 lo hi).map (begun ++ ·) = [begun]) := Lib.hid (by simp [genR])
    have HN1 : Hid (N = 1) := Lib.hid (by rw [← HN.out]; rfl)
    obtain rfl : k = n := by omega
    obtain ⟨g, rfl, _, _⟩ := ho.row (by omega)
    clear hf
    go_enter Try.func110, Try.ntmps110
    go_wp2
    go_ret
    exact ⟨some ⟨w.heap.size, 0, none⟩, 1, by rw [HN1.out]; rfl, by rw [HG.out, HN1.out]; exact RR2.lit1 ho, (Below.refl _ w).alloc (Nat.le_refl _) _⟩
  | succ f ih =>
    intro lo hi k begun D cc w hf hhi hlo hk hn1 ho hb N HN
    have HIH := Lib.hid ih
    clear ih
    have HF := Lib.hid hf
    have hri := ho.ri
    have hbl : begun.length = k := by have := ho.len; rwa [ofN_length] at this
    have HBL := Lib.hid hbl
    clear hbl
    have hkn : ((k : Int) == (n : Int)) = false := by simp; omega
    have HKF := Lib.hid hk
    have hk10 : k < 10 := by omega
    have hmany : ∀ f lo hi, f ≤ 10 → (genR n f lo hi).length ≤ 1048575 := fun f lo hi h => by
      have key : ∀ f lo hi, (genR n f lo hi).length ≤ 2 ^ f := by
        intro f
        induction f with
        | zero => intro lo hi; simp [genR]
        | succ f ih =>
          intro lo hi
          rw [genR, List.length_append]
          have e1 := ih (lo - 1) hi
          have e2 := ih lo (hi + 1)
          have e3 : 2 ^ (f + 1) = 2 ^ f + 2 ^ f := by rw [Nat.pow_succ]; omega
          split <;> split <;> simp <;> omega
      have h1 := key f lo hi
      have h2 : 2 ^ f ≤ 2 ^ 10 := Nat.pow_le_pow_right (by omega) h
      omega
    have HMANY := Lib.hid hmany
    clear hmany
    obtain ⟨R1, HR1⟩ : ∃ R, Hid ((if 0 < lo then (genR n f (lo - 1) hi).map ((lo - 1) :: ·) else []) = R) := ⟨_, Lib.hid rfl⟩
    obtain ⟨R2, HR2⟩ : ∃ R, Hid ((if hi < n then (genR n f lo (hi + 1)).map (hi :: ·) else []) = R) := ⟨_, Lib.hid rfl⟩
    have HGEN : Hid (genR n (f + 1) lo hi = R1 ++ R2) := Lib.hid (by rw [genR, HR1.out, HR2.out])
    have HNN : Hid (R1.length + R2.length = N) := Lib.hid (by rw [← HN.out, HGEN.out, List.length_append])
    clear hf hk
    by_cases hl0 : 0 < lo
    · obtain ⟨q, HQ⟩ : ∃ q : Nat, Hid (lo = q + 1) := ⟨lo - 1, Lib.hid (by omega)⟩
      have hwq : IntKind.i64.wrap ((lo : Int) - 1) = (q : Int) := by rw [IntWalk.i64_in _ (by omega)]; have := HQ.out; omega
      have HR1a : Hid (R1 = (genR n f q hi).map (q :: ·)) := Lib.hid (by rw [← HR1.out, if_pos hl0, show lo - 1 = q from by have := HQ.out; omega])
      go_enter Try.func110, Try.ntmps110
      go_wp2_with (first
        | (at_builtin; refine push_nums rfl (.tmp 22) (.tmp 23) rfl w.heap.size (some ⟨w.heap.size, 0, none⟩) 0 0 [] rfl (Oj.lit0 w) w.heap.size D k cc (ofN begun) rfl (hri.alloc (Nat.le_refl _) _) (by omega) (by omega) (by simp) ?_; intro A1 cap1 w1 ho1 hg1; simp only [Nat.zero_add, List.nil_append] at ho1 ⊢)
        | (at_builtin; refine push_num rfl (.tmp 24) (.tmp 27) rfl w.heap.size A1 k cap1 (ofN begun) rfl (ho1.alloc _) ⟨w1.heap.size, 0, none⟩ 1 (q : Int) rfl (cell_new1 _ _ _) (by omega) (by have := hg1.size; simp at this; simp only [World.size_alloc]; omega) ?_; intro g2 cap2 w2 ho2 hg2))
      have s01 : w.heap.size + 1 ≤ w1.heap.size := by have := hg1.size; simpa using this
      have s12' : w1.heap.size + 1 ≤ w2.heap.size := by have := hg2.size; simpa using this
      have b02 : Below w.heap.size w w2 := ((((Below.refl _ w).alloc (Nat.le_refl _) _).grown hg1 (by simp) (fun r e => by simp at e; omega)).alloc (by omega) _).grown hg2 (by simp; omega) (fun r e => (ho1.lt r e).1)
      obtain ⟨N1, HN1⟩ : ∃ N1, Hid ((genR n f q hi).length = N1) := ⟨_, Lib.hid rfl⟩
      have HN1b : Hid (R1.length = N1 ∧ N1 ≤ 1048575) := Lib.hid (by
        rw [HR1a.out, List.length_map]
        exact ⟨HN1.out, by rw [← HN1.out]; exact HMANY.out _ _ _ (by have := HKF.out; omega)⟩)
      refine (HIH.out q hi (k + 1) (begun ++ [q]) _ cap2 w2 (by have := HF.out; have := HQ.out; omega) hhi (by have := HQ.out; omega) (by have := HKF.out; omega) hn1 (by rw [ofN_append]; exact ho2.base hb) (by have := b02.size; omega) N1 HN1).mono ?_
      rintro e W ⟨A2, c2, rfl, hout, b2W⟩
      have bW : Below w.heap.size w W := b02.trans (b2W.mono b02.size)
      have hoW := ho.below bW
      have sbW := bW.size
      obtain ⟨LL1, HLL1⟩ : ∃ L, Hid (((genR n f q hi).map (begun ++ [q] ++ ·)).map ofN = L) := ⟨_, Lib.hid rfl⟩
      rw [HLL1.out] at hout
      have HRL : Hid ((R1.map (begun ++ ·)).map ofN = LL1) := Lib.hid (by
        rw [← HLL1.out, HR1a.out, List.map_map, List.map_map, List.map_map]
        refine List.map_congr_left fun r _ => ?_
        simp [List.append_assoc])
      clear hg1 hg2 ho1 ho2 b02 b2W hri
      by_cases hh : hi < n
      · obtain ⟨N2, HN2⟩ : ∃ N2, Hid ((genR n f lo (hi + 1)).length = N2) := ⟨_, Lib.hid rfl⟩
        have HR2a : Hid (R2 = (genR n f lo (hi + 1)).map (hi :: ·)) := Lib.hid (by rw [← HR2.out, if_pos hh])
        have HN2b : Hid (R2.length = N2 ∧ N2 ≤ 1048575) := Lib.hid (by
          rw [HR2a.out, List.length_map]
          exact ⟨HN2.out, by rw [← HN2.out]; exact HMANY.out _ _ _ (by have := HKF.out; omega)⟩)
        obtain ⟨h1, HH1⟩ : ∃ h, Hid (hi + 1 = h) := ⟨_, Lib.hid rfl⟩
        have hwh : IntKind.i64.wrap ((hi : Int) + 1) = ((hi + 1 : Nat) : Int) := by rw [IntWalk.i64_in _ (by omega)]; rfl
        clear HH1 h1
        have HLT : Hid (((genR n (f + 1) lo hi).map (begun ++ ·)).map ofN = LL1 ++ ((genR n f lo (hi + 1)).map (begun ++ [hi] ++ ·)).map ofN) := Lib.hid (by
          rw [HGEN.out, List.map_append, List.map_append, HRL.out, HR2a.out, List.map_map, List.map_map, List.map_map]
          congr 1
          refine List.map_congr_left fun r _ => ?_
          simp [List.append_assoc])
        have HNT : Hid (N1 + N2 = N) := Lib.hid (by rw [← HNN.out, HN1b.out.1, HN2b.out.1])
        have HN1V := HN1b.out.2
        have hRb : N1 ≤ 1048575 ∧ R2.length ≤ 1048575 := by
          refine ⟨HN1V, ?_⟩
          rw [HR2a.out, List.length_map]
          exact HMANY.out _ _ _ (by have := HKF.out; omega)
        go_wp2_with (first
          | (at_builtin; refine push_rowsj rfl (.tmp 33) (.tmp 34) rfl W.heap.size base (some ⟨W.heap.size, 0, none⟩) 0 0 n [] rfl (RR2.lit0 W base n) _ A2 N1 c2 LL1 rfl (hout.alloc _) (by omega) (by omega) (by simp) ?_; intro A3 cap3 v1 hr1 hgA; simp only [Nat.zero_add, List.nil_append] at hr1 ⊢; have bv1 : Below W.heap.size W v1 := ((Below.refl _ W).alloc (Nat.le_refl _) _).grown hgA (by simp) (fun r e => by simp at e; omega); have hov1 := hoW.below bv1; have hriv1 := hov1.ri)
          | (at_builtin; refine push_nums rfl (.tmp 40) (.tmp 41) rfl v1.heap.size (some ⟨v1.heap.size, 0, none⟩) 0 0 [] rfl (Oj.lit0 v1) v1.heap.size D k cc (ofN begun) rfl (hriv1.alloc (Nat.le_refl _) _) (by omega) (by omega) (by simp) ?_; intro A4 cap4 v2 ho4 hg4; simp only [Nat.zero_add, List.nil_append] at ho4 ⊢)
          | (at_builtin; refine push_num rfl (.tmp 42) (.tmp 44) rfl v1.heap.size A4 k cap4 (ofN begun) rfl (ho4.alloc _) ⟨v2.heap.size, 0, none⟩ 1 (hi : Int) rfl (cell_new1 _ _ _) (by omega) (by have := hg4.size; simp at this; simp only [World.size_alloc]; omega) ?_; intro g5 cap5 v3 ho5 hg5))
        have s12 : v1.heap.size + 1 ≤ v2.heap.size := by have := hg4.size; simpa using this
        have s23 : v2.heap.size + 1 ≤ v3.heap.size := by have := hg5.size; simpa using this
        have b13 : Below v1.heap.size v1 v3 := ((((Below.refl _ v1).alloc (Nat.le_refl _) _).grown hg4 (by simp) (fun r e => by simp at e; omega)).alloc (by omega) _).grown hg5 (by simp; omega) (fun r e => (ho4.lt r e).1)
        have hr3 := hr1.below b13
        have sW : W.heap.size ≤ v1.heap.size := bv1.size
        refine (HIH.out lo (hi + 1) (k + 1) (begun ++ [hi]) _ cap5 v3 (by have := HF.out; omega) (by omega) hlo (by have := HKF.out; omega) hn1 (by rw [ofN_append]; exact ho5.base (by omega)) (by omega) N2 HN2).mono ?_
        rintro e v4 ⟨A6, c6, rfl, hr6, b34⟩
        have hr3b := hr3.below b34
        have s34 := b34.size
        go_wp2_with (at_builtin; refine push_rowsj rfl (.tmp 35) (.tmp 46) rfl W.heap.size base A3 N1 cap3 n LL1 rfl hr3b _ A6 N2 c6 _ rfl hr6 (by omega) (by have := HN2b.out; omega) (by omega) ?_; intro A7 cap7 v5 hr7 hg7)
        go_ret
        have bw4 : Below w.heap.size w v4 := ((bW.trans (bv1.mono bW.size)).trans (b13.mono (by have := bW.size; omega))).trans (b34.mono (by have := bW.size; omega))
        exact ⟨A7, cap7, by rw [← HNT.out]; first | rfl | (rw [Nat.zero_add]; rfl) | rw [Nat.zero_add], by rw [← HNT.out, HLT.out]; exact hr7.base_ bW.size, bw4.grown hg7 bw4.size (fun r e => Nat.le_trans bW.size (hr3b.lt r e).1)⟩
      · have HLT : Hid (((genR n (f + 1) lo hi).map (begun ++ ·)).map ofN = LL1) := Lib.hid (by
          rw [HGEN.out, ← HR2.out, if_neg hh, List.append_nil, HRL.out])
        have HNT : Hid (N1 = N) := Lib.hid (by rw [← HNN.out, HN1b.out.1, ← HR2.out, if_neg hh]; rfl)
        go_wp2
        go_ret
        exact ⟨A2, c2, by rw [← HNT.out]; rfl, by rw [← HNT.out, HLT.out]; exact hout.base_ (by omega), bW⟩
    · have hh : hi < n := by have := HF.out; omega
      obtain ⟨N2, HN2⟩ : ∃ N2, Hid ((genR n f lo (hi + 1)).length = N2) := ⟨_, Lib.hid rfl⟩
      have HR2a : Hid (R2 = (genR n f lo (hi + 1)).map (hi :: ·)) := Lib.hid (by rw [← HR2.out, if_pos hh])
      have HN2b : Hid (R2.length = N2 ∧ N2 ≤ 1048575) := Lib.hid (by
        rw [HR2a.out, List.length_map]
        exact ⟨HN2.out, by rw [← HN2.out]; exact HMANY.out _ _ _ (by have := HKF.out; omega)⟩)
      obtain ⟨h1, HH1⟩ : ∃ h, Hid (hi + 1 = h) := ⟨_, Lib.hid rfl⟩
      have hwh : IntKind.i64.wrap ((hi : Int) + 1) = ((hi + 1 : Nat) : Int) := by rw [IntWalk.i64_in _ (by omega)]; rfl
      clear HH1 h1
      have HLT : Hid (((genR n (f + 1) lo hi).map (begun ++ ·)).map ofN = [] ++ ((genR n f lo (hi + 1)).map (begun ++ [hi] ++ ·)).map ofN) := Lib.hid (by
        rw [HGEN.out, ← HR1.out, if_neg hl0, List.nil_append, List.nil_append, HR2a.out, List.map_map, List.map_map, List.map_map]
        refine List.map_congr_left fun r _ => ?_
        simp [List.append_assoc])
      have HNT : Hid (0 + N2 = N) := Lib.hid (by rw [← HNN.out, HN2b.out.1, ← HR1.out, if_neg hl0]; rfl)
      have HN1V : 0 ≤ 1048575 := by omega
      have hoW := ho
      have bW : Below w.heap.size w w := Below.refl _ _
      have hout := RR2.nil_ w w.heap.size base n
      go_enter Try.func110, Try.ntmps110
      have hRb : 0 ≤ 1048575 ∧ R2.length ≤ 1048575 := by
        refine ⟨HN1V, ?_⟩
        rw [HR2a.out, List.length_map]
        exact HMANY.out _ _ _ (by have := HKF.out; omega)
      go_wp2_with (first
        | (at_builtin; refine push_rowsj rfl (.tmp 33) (.tmp 34) rfl w.heap.size base (some ⟨w.heap.size, 0, none⟩) 0 0 n [] rfl (RR2.lit0 w base n) _ none 0 0 ([] : List (List Int)) rfl (hout.alloc _) (by omega) (by omega) (by simp) ?_; intro A3 cap3 v1 hr1 hgA; simp only [Nat.zero_add, List.nil_append] at hr1 ⊢; have bv1 : Below w.heap.size w v1 := ((Below.refl _ w).alloc (Nat.le_refl _) _).grown hgA (by simp) (fun r e => by simp at e; omega); have hov1 := hoW.below bv1; have hriv1 := hov1.ri)
        | (at_builtin; refine push_nums rfl (.tmp 40) (.tmp 41) rfl v1.heap.size (some ⟨v1.heap.size, 0, none⟩) 0 0 [] rfl (Oj.lit0 v1) v1.heap.size D k cc (ofN begun) rfl (hriv1.alloc (Nat.le_refl _) _) (by omega) (by omega) (by simp) ?_; intro A4 cap4 v2 ho4 hg4; simp only [Nat.zero_add, List.nil_append] at ho4 ⊢)
        | (at_builtin; refine push_num rfl (.tmp 42) (.tmp 44) rfl v1.heap.size A4 k cap4 (ofN begun) rfl (ho4.alloc _) ⟨v2.heap.size, 0, none⟩ 1 (hi : Int) rfl (cell_new1 _ _ _) (by omega) (by have := hg4.size; simp at this; simp only [World.size_alloc]; omega) ?_; intro g5 cap5 v3 ho5 hg5))
      have s12 : v1.heap.size + 1 ≤ v2.heap.size := by have := hg4.size; simpa using this
      have s23 : v2.heap.size + 1 ≤ v3.heap.size := by have := hg5.size; simpa using this
      have b13 : Below v1.heap.size v1 v3 := ((((Below.refl _ v1).alloc (Nat.le_refl _) _).grown hg4 (by simp) (fun r e => by simp at e; omega)).alloc (by omega) _).grown hg5 (by simp; omega) (fun r e => (ho4.lt r e).1)
      have hr3 := hr1.below b13
      have sW : w.heap.size ≤ v1.heap.size := bv1.size
      refine (HIH.out lo (hi + 1) (k + 1) (begun ++ [hi]) _ cap5 v3 (by have := HF.out; omega) (by omega) hlo (by have := HKF.out; omega) hn1 (by rw [ofN_append]; exact ho5.base (by omega)) (by omega) N2 HN2).mono ?_
      rintro e v4 ⟨A6, c6, rfl, hr6, b34⟩
      have hr3b := hr3.below b34
      have s34 := b34.size
      go_wp2_with (at_builtin; refine push_rowsj rfl (.tmp 35) (.tmp 46) rfl w.heap.size base A3 0 cap3 n ([] : List (List Int)) rfl hr3b _ A6 N2 c6 _ rfl hr6 (by omega) (by have := HN2b.out; omega) (by omega) ?_; intro A7 cap7 v5 hr7 hg7)
      go_ret
      have bw4 : Below w.heap.size w v4 := ((bW.trans (bv1.mono bW.size)).trans (b13.mono (by have := bW.size; omega))).trans (b34.mono (by have := bW.size; omega))
      exact ⟨A7, cap7, by rw [← HNT.out]; first | rfl | (rw [Nat.zero_add]; rfl) | rw [Nat.zero_add], by rw [← HNT.out, HLT.out]; exact hr7.base_ bW.size, bw4.grown hg7 bw4.size (fun r e => Nat.le_trans bW.size (hr3b.lt r e).1)⟩
end Go.Proofs.Ytaekjnjignlmoaa
