/-
  The program: Change, Pay.
-/
import Derived.Test.YtloibnmhgocboaaF9
namespace Go.Proofs.Ytloibnmhgocboaa
open Go.RowKit Go.Shelf

theorem ri_block {w : World} {A : Option Addr} {n m : Nat} {cs : List Int} (hx : Ri w w.heap.size A n cs) (hn : 1 ≤ n) (hm : w.heap.size ≤ m) : ∀ r : Nat, A.map Addr.block = some r → r ≠ m := fun r e => by
  obtain ⟨ad, h1, h2, _⟩ := hx.2 (by omega)
  subst h1
  simp at e
  omega
theorem stockN_full {cs : List Int} {n : Nat} (h : cs.length = n) : fullStock cs = stockN n := by rw [fullStock, stockN, h]
theorem splice_till (A : Option Addr) (n c m : Nat) {st : List Int} (hl : st.length = n) (hn : n ≤ 5) : splice (tillCells A n c m (stockN n)).toList 2 (ints st) = (tillCells A n c m st).toList := by
  match n, st, hl, hn with
  | 0, [], _, _ => rfl
  | 1, [a], _, _ => rfl
  | 2, [a, b], _, _ => rfl
  | 3, [a, b, d], _, _ => rfl
  | 4, [a, b, d, e], _, _ => rfl
  | 5, [a, b, d, e, f], _, _ => rfl
theorem wpList_copy_row {P : Program} {w : World} {ops : Array Oper} {rest : List Oper} {o : Oper} {a : Act} {Q : Exit → Act → World → Prop} (hgd : o.guard = none) (d s : Operand) (dT sT : TypeId)
    (ho : o.op = .call { callee := .builtin .copy, args := #[d, s], argTypes := #[dT, sT] }) (elem : TypeId) (hu : P.underlying dT = some (.slice elem)) (hsz : (P.info? elem).map (·.size) = some 1)
    (g off dLen dCap : Nat) (ad : Addr) (sLen sCap : Nat) (hd : a.eval d = .slice (some ⟨g, off, none⟩) dLen dCap) (hs : a.eval s = .slice (some ad) sLen sCap)
    (cur : List Value) (t : TypeId) (hg : w.heap[g]? = some (.cells cur.toArray t (0, 0))) (cs : List Value) (hn : cs.length = Nat.min sLen dLen)
    (hsrc : ∀ j v, cs[j]? = some v → w.cell? (ad.add j) = some v) (hfit : off + cs.length ≤ cur.length) (h1 : ∀ v ∈ cs, v.oneCell' = true)
    (h : ∀ w', Hid (w'.heap[g]? = some (.cells (splice cur off cs).toArray t (0, 0))) → (∀ k, k ≠ g → w'.heap[k]? = w.heap[k]?) → (∀ B, B ≤ g → Below B w w') → wpList P ops Q rest (a.put o.dst (goInt cs.length)) w') :
    wpList P ops Q (o :: rest) a w := by
  refine wpList_copy_own hgd d s dT sT ho elem hu hsz g off dLen dCap ad sLen sCap hd hs cur.toArray t hg cs hn hsrc (by simpa using hfit) h1 ?_
  exact h _ (show _ = _ by simpa [splice] using setRow_heap w g _ _ t _ hg) (fun k hk => setRow_other w g k _ hk) (fun B hB => below_setRow (Below.refl _ _) hB _)
set_option maxHeartbeats 1000000 in
theorem fChangeT (A : Option Addr) (n c : Nat) (cs : List Int) (a : Int) (w : World) (hx : Ri w w.heap.size A n cs) (hn : n ≤ 1048576) (hc : n ≤ c) (L : List Int) (r : Int) (HR : Hid (changeS cs a = (L, r))) : Calls Try.prog 26 #[.slice A n c, .int .i64 a] w (RetLE w L r) := by
  obtain ⟨q, HQ⟩ : ∃ q, Hid (amountE cs a = q) := ⟨_, Lib.hid rfl⟩
  have HL := Lib.hid hx.len
  by_cases h0 : q = 0
  · subst h0
    obtain ⟨hg, ha0, ha1⟩ := amountE_ok.1 HQ.out
    have HC : Hid (∀ x ∈ cs, 1 ≤ x ∧ x ≤ 50) := Lib.hid hg.all
    have hn1 : 1 ≤ n := by rw [← HL.out]; exact hg.lo
    have hn5 : n ≤ 5 := by rw [← HL.out]; exact hg.hi
    obtain ⟨N, rfl⟩ : ∃ N : Nat, a = N := ⟨a.toNat, by omega⟩
    have hN : N ≤ 300 := by omega
    have HE : Hid (bestL cs (stockN n) N = (L, r)) := Lib.hid (by
      have e := HR.out
      unfold changeS at e
      rwa [if_pos HQ.out, stockN_full HL.out] at e)
    have HS : Hid (∀ x ∈ stockN n, 0 ≤ x ∧ x ≤ 300) := Lib.hid (fun x h => by rw [List.eq_of_mem_replicate h]; omega)
    clear hg
    go_enter Try.func26, Try.ntmps26
    go_wp2_with fail
    refine (fOpen1_ok A n c cs (N : Int) w hx hc HQ).mono ?_
    rintro e w1 ⟨g, m, rfl, ht, hg1, hm1, hb1⟩
    have hx1 := hx.next hb1 (Nat.le_refl _) hb1.size
    go_wp2_with fail
    refine (dChange g m A n c cs (stockN n) HL.out (by simp [stockN]) hn5 HC HS N hN w1 ht hx1 (Lib.hid (ri_block hx hn1 hm1)) w.heap.size hm1 hb1.size L r HE).mono ?_
    rintro e w2 ⟨A', n', c', rfl, ho, hb2⟩
    have hb3 := hb1.trans hb2
    have ho2 := ho.base hb1.size
    go_wp2
    go_ret2
    exact ⟨_, _, _, rfl, ho2, hb3⟩
  · have HE : Hid ([] = L ∧ q = r) := Lib.hid (by
      have e := HR.out
      unfold changeS at e
      rw [if_neg (by rw [HQ.out]; exact h0), HQ.out] at e
      cases e
      exact ⟨rfl, rfl⟩)
    have hq := ne0 h0
    go_enter Try.func26, Try.ntmps26
    go_wp2_with fail
    refine (fOpen1_err A n c cs a w hx hn hc q HQ h0).mono ?_
    rintro e w1 ⟨rfl, hb1⟩
    go_wp2
    go_ret2
    exact ⟨none, 0, 0, ret_le HE.out.2, by rw [← HE.out.1]; exact Oi.nil_ _ _, hb1⟩
set_option maxRecDepth 100000 in
set_option maxHeartbeats 2000000 in
theorem fPayT (A : Option Addr) (n c : Nat) (cs : List Int) (D : Option Addr) (n2 c2 : Nat) (st : List Int) (a : Int) (w : World) (hx : Ri w w.heap.size A n cs) (hy : Ri w w.heap.size D n2 st) (hn : n ≤ 1048576) (hn2 : n2 ≤ 1048576) (hc : n ≤ c) (L : List Int) (r : Int) (HR : Hid (payS cs st a = (L, r))) : Calls Try.prog 47 #[.slice A n c, .slice D n2 c2, .int .i64 a] w (RetLE w L r) := by
  obtain ⟨q, HQ⟩ : ∃ q, Hid (amountE cs a = q) := ⟨_, Lib.hid rfl⟩
  have HL := Lib.hid hx.len
  have HL2 := Lib.hid hy.len
  by_cases h0 : q = 0
  · subst h0
    obtain ⟨hg, ha0, ha1⟩ := amountE_ok.1 HQ.out
    have HC : Hid (∀ x ∈ cs, 1 ≤ x ∧ x ≤ 50) := Lib.hid hg.all
    have hn1 : 1 ≤ n := by rw [← HL.out]; exact hg.lo
    have hn5 : n ≤ 5 := by rw [← HL.out]; exact hg.hi
    obtain ⟨N, rfl⟩ : ∃ N : Nat, a = N := ⟨a.toNat, by omega⟩
    have hN : N ≤ 300 := by omega
    clear hg
    by_cases hne : n2 = n
    · subst hne
      have hnb : ((n2 : Int) != (n2 : Int)) = false := by simp
      obtain ⟨b, HB⟩ : ∃ b, Hid (st.any (outB 0 20) = b) := ⟨_, Lib.hid rfl⟩
      have HE0 : Hid (payS cs st N = if b then ([], 2) else bestL cs st N) := Lib.hid (by
        have h : stockE cs st N = if b then 2 else 0 := by
          unfold stockE
          rw [if_pos HQ.out, if_neg (by rw [HL.out, HL2.out]; simp), HB.out]
        unfold payS
        rw [h]
        cases b <;> rfl)
      go_enter Try.func47, Try.ntmps47
      go_wp2_with fail
      refine (fOpen1_ok A n2 c cs (N : Int) w hx hc HQ).mono ?_
      rintro e w1 ⟨g, m, rfl, ht, hg1, hm1, hb1⟩
      have hx1 := hx.next hb1 (Nat.le_refl _) hb1.size
      have hy1 := hy.next hb1 (Nat.le_refl _) hb1.size
      go_wp2_with fail
      refine (fWithin _ _ _ _ _ _ _ hy1 (by omega) _ HB).mono ?_
      rintro e w2 ⟨rfl, hb2, hs2⟩
      clear hs2
      have hb3 := hb1.trans (hb2.mono hb1.size)
      cases b
      · have HE : Hid (bestL cs st N = (L, r)) := Lib.hid (by rw [← HR.out, HE0.out]; rfl)
        have HS : Hid (∀ x ∈ st, 0 ≤ x ∧ x ≤ 300) := Lib.hid (fun x h => by have := any_out.1 HB.out x h; omega)
        have hkg : Bk w2 g 84 (tillCells A n2 c m (stockN n2)) := ht.bk.below hb2 ht.bk.lt
        have hms2 : Ms w2 m 0 (fun _ => none) := ht.ms.same (hb2.block m ht.ms.lt)
        have hgm := ht.ne
        have hHK : w2.heap[g]? = some (.cells (tillCells A n2 c m (stockN n2)).toList.toArray 84 (0, 0)) := hkg
        have hx2 := hx.next hb3 (Nat.le_refl _) hb3.size
        have hy2 := hy.next hb3 (Nat.le_refl _) hb3.size
        have HSP := Lib.hid (splice_till A n2 c m HL2.out hn5)
        obtain ⟨ad, y0, rfl, _⟩ := hy2.at_ (k := 0) (by omega)
        have hsrc : ∀ j v, (ints st)[j]? = some v → w2.cell? (ad.add j) = some v := fun j v hj => by
          have hjn : j < n2 := by
            have := (List.getElem?_eq_some_iff.1 hj).1
            rw [ints_length, HL2.out] at this
            exact this
          obtain ⟨ad', y, hA', _, hc', hy', _⟩ := hy2.at_ hjn
          cases hA'
          rw [ints, List.getElem?_map, hy'.out] at hj
          cases hj
          exact hc'
        have hmin : (ints st).length = Nat.min n2 5 := by rw [ints_length, HL2.out]; exact (Nat.min_eq_left hn5).symm
        go_wp2_with (with_reducible (show wpList _ _ _ (⟨some 36, _, _, _, _, _⟩ :: _) _ _); go_must (refine wpList_copy_row rfl (.tmp 34) (.tmp 35) 22 22 rfl 2 under_ints size_int g 2 5 5 ad n2 c2 rfl rfl _ 84 hHK (ints st) hmin hsrc (by rw [ints_length, HL2.out]; simp [tillCells]; omega) (by simp [ints, Value.oneCell']) ?_); go_must (intro w4 HM3 hoth hbb; have hb5 := hb3.trans (hbb w.heap.size hg1)))
        have hk4 : Bk w4 g 84 (tillCells A n2 c m st) := by
          have h := HM3.out
          rw [HSP.out] at h
          exact h
        have hms4 : Ms w4 m 0 (fun _ => none) := hms2.same (hoth m (fun e => hgm e.symm))
        have ht4 : Till w4 g m 0 A n2 c st (fun _ => none) := ⟨hk4, hms4, hgm⟩
        have hx4 := hx.next hb5 (Nat.le_refl _) hb5.size
        go_wp2_with fail
        refine (dChange g m A n2 c cs st HL.out HL2.out hn5 HC HS N hN w4 ht4 hx4 (Lib.hid (ri_block hx hn1 hm1)) w.heap.size hm1 hb5.size L r HE).mono ?_
        rintro e w5 ⟨A', n', c', rfl, ho, hb6⟩
        have hb7 := hb5.trans hb6
        have ho2 := ho.base hb5.size
        go_wp2
        go_ret2
        exact ⟨_, _, _, rfl, ho2, hb7⟩
      · have HE : Hid ([] = L ∧ 2 = r) := Lib.hid (by have e := HR.out; rw [HE0.out] at e; cases e; exact ⟨rfl, rfl⟩)
        go_wp2
        go_ret2
        exact ⟨none, 0, 0, ret_le HE.out.2, by rw [← HE.out.1]; exact Oi.nil_ _ _, hb3⟩
    · have hnb : ((n2 : Int) != (n : Int)) = true := by simp only [bne_iff_ne, ne_eq]; omega
      have HE : Hid ([] = L ∧ 15 = r) := Lib.hid (by
        have e := HR.out
        have h : stockE cs st N = 15 := by
          unfold stockE
          rw [if_pos HQ.out, if_pos (by rw [HL.out, HL2.out]; exact hne)]
        unfold payS at e
        rw [h, if_neg (by decide)] at e
        cases e
        exact ⟨rfl, rfl⟩)
      go_enter Try.func47, Try.ntmps47
      go_wp2_with fail
      refine (fOpen1_ok A n c cs (N : Int) w hx hc HQ).mono ?_
      rintro e w1 ⟨g, m, rfl, ht, hg1, hm1, hb1⟩
      go_wp2
      go_ret2
      exact ⟨none, 0, 0, ret_le HE.out.2, by rw [← HE.out.1]; exact Oi.nil_ _ _, hb1⟩
  · have HE : Hid ([] = L ∧ q = r) := Lib.hid (by
      have e := HR.out
      have h : stockE cs st a = q := by
        unfold stockE
        rw [if_neg (by rw [HQ.out]; exact h0), HQ.out]
      unfold payS at e
      rw [h, if_neg h0] at e
      cases e
      exact ⟨rfl, rfl⟩)
    have hq := ne0 h0
    go_enter Try.func47, Try.ntmps47
    go_wp2_with fail
    refine (fOpen1_err A n c cs a w hx hn hc q HQ h0).mono ?_
    rintro e w1 ⟨rfl, hb1⟩
    go_wp2
    go_ret2
    exact ⟨none, 0, 0, ret_le HE.out.2, by rw [← HE.out.1]; exact Oi.nil_ _ _, hb1⟩
end Go.Proofs.Ytloibnmhgocboaa
