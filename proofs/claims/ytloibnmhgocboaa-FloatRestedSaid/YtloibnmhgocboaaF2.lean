/-
  The program: Heights, CheckHeights, CheckBad, Bad.
-/
import Derived.Test.YtloibnmhgocboaaF1
import Derived.Test.YtloibnmhgocboaaPQ
namespace Go.Proofs.Ytloibnmhgocboaa
open Go.RowKit Go.Shelf

theorem size_int : (Try.prog.info? 2).map (·.size) = some 1 := by kernel_rfl
/-- A row that the call itself made is full of zeroes. -/
theorem make_int {w : World} {ops : Array Oper} {rest : List Oper} {o : Oper} {a : Act} {Q : Exit → Act → World → Prop} (hg : o.guard = none) (l c : Operand) (hop : o.op = .makeSlice 22 l c)
    (n : Nat) (V : Int) (hl : a.eval l = .int .i64 V) (hc : a.eval c = .int .i64 V) (hV : V = (n : Int)) (hn : n ≤ 1073741824)
    (h : ∀ w', Hid (w'.heap[w.heap.size]? = some (.cells (List.replicate n (Value.int .i64 0)).toArray 2 (0, 0))) → Below w.heap.size w w' → wpList Try.prog ops Q rest (a.put o.dst (.slice (some ⟨w.heap.size, 0, none⟩) n n)) w') : wpList Try.prog ops Q (o :: rest) a w := by
  obtain ⟨i0, hi, hz0, hz1, hz2⟩ := info_parts info_int
  refine wpList_make_full w hg l c _ hop w.heap.size _ i0 _ 1 under_ints hi hz0 hz1 .i64 .i64 _ _ n hl hc hV hV (by rw [hz2]; omega) (by unfold maxLen; omega) (Nat.le_refl _) ?_
  intro w' hown hgrow
  refine h w' ?_ (below_grown0 hgrow)
  have e : (madeCells (Value.int .i64 0).cells (n * 1)).toList = List.replicate n (Value.int .i64 0) := by
    rw [Nat.mul_one]
    show (madeCells #[Value.int .i64 0] n).toList = _
    rw [toList_madeCells_one]
  rw [e] at hown
  rcases hown.2 with ⟨h', _⟩ | ⟨g', cap', cur, h', _, hg', h4, _, h5, h6⟩
  · cases h'
  · injection h' with e1 e2 e3
    injection e1 with e1
    injection e1 with e1
    subst e1
    subst e3
    rw [Nat.mul_one] at h5 h6
    have hc : cur.toList = List.replicate n (Value.int .i64 0) := by
      rw [← h6]
      exact (List.take_of_length_le (by rw [Array.length_toList, h5]; exact Nat.le_refl _)).symm
    have hc2 : cur = (List.replicate n (Value.int .i64 0)).toArray := by rw [← hc]
    rw [← hc2]
    exact Lib.hid hg'

theorem Oi.source {w : World} {base n c : Nat} {A : Option Addr} {xs : List Int} (h : Oi w base A n c xs) (d : Option Addr) : 0 < (ints xs).length → d = d ∧ ∃ ad, A = some ad ∧ ∀ j v, (ints xs)[j]? = some v → w.cell? (ad.add j) = some v := by
  intro hpos
  rw [ints_length, h.len] at hpos
  refine ⟨rfl, ?_⟩
  obtain ⟨ad, _, hA, _⟩ := h.ri.at_ (k := 0) hpos
  refine ⟨ad, hA, fun j v hj => ?_⟩
  have hjn : j < n := by
    have := (List.getElem?_eq_some_iff.1 hj).1
    rw [ints_length, h.len] at this
    exact this
  obtain ⟨ad', y, hA', _, hc, hy, _⟩ := h.ri.at_ hjn
  rw [hA] at hA'
  cases hA'
  rw [ints, List.getElem?_map, hy.out] at hj
  cases hj
  exact hc


set_option maxRecDepth 100000 in
set_option maxHeartbeats 2000000 in
theorem fHeightsT (A : Option Addr) (n c : Nat) (cs : List Int) (a : Int) (w : World) (hx : Ri w w.heap.size A n cs) (hn : n ≤ 1048576) (hc : n ≤ c) (L : List Int) (r : Int) (HR : Hid (heightsS cs a = (L, r))) : Calls Try.prog 31 #[.slice A n c, .int .i64 a] w (RetLE w L r) := by
  obtain ⟨q, HQ⟩ : ∃ q, Hid (amountE cs a = q) := ⟨_, Lib.hid rfl⟩
  by_cases h0 : q = 0
  · subst h0
    obtain ⟨hg, ha0, ha1⟩ := amountE_ok.1 HQ.out
    have HG := Lib.hid hg
    obtain ⟨N, rfl⟩ : ∃ N : Nat, a = N := ⟨a.toNat, by omega⟩
    have hN : N ≤ 300 := by omega
    have HE : Hid (heightsL cs N = L ∧ 0 = r) := Lib.hid (by
      have e := HR.out
      unfold heightsS at e
      rw [if_pos HQ.out] at e
      cases e
      exact ⟨rfl, rfl⟩)
    clear hg
    go_enter Try.func31, Try.ntmps31
    go_wp2_with fail
    refine (fOpen1_ok A n c cs (N : Int) w hx hc HQ).mono ?_
    rintro e w1 ⟨g, m, rfl, ht, hg1, hm1, hb1⟩
    have hx1 := hx.next hb1 (Nat.le_refl _) hb1.size
    go_wp2_with fail
    refine (dHeights g m 0 A n c (stockN n) cs N hN _ HG w1 ht hx1).mono ?_
    rintro e w2 ⟨A1, n1, c1, rfl, ho, hb2⟩
    have hl := ho.len
    rw [heightsL_len] at hl
    obtain rfl : n1 = N + 1 := hl.symm
    have hb3 := hb1.trans (hb2.mono hb1.size)
    have ho2 := ho.base hb1.size
    rw [HE.out.1] at ho2
    have hs1 := hb3.size
    have HO := Lib.hid ho2
    clear hb1 hb2 ho
    go_wp2_with (first
      | (at_make; go_must (refine make_int rfl (.tmp 24) (.tmp 24) rfl (N + 1) _ rfl rfl rfl (by omega) ?_); go_must (intro w3 HM hb4; have HO2 := Lib.hid (HO.out.below hb4); have hg2 := hb4.size))
      | (with_reducible (show wpList _ _ _ (⟨some 28, _, _, _, _, _⟩ :: _) _ _); go_must (refine wpList_copy_splice rfl (.tmp 26) (.tmp 27) 22 22 rfl 2 under_ints size_int (some ⟨w2.heap.size, 0, none⟩) A1 (N + 1) (N + 1) (N + 1) c1 rfl rfl w2.heap.size 0 (List.replicate (N + 1) (Value.int .i64 0)) 2 HM.out (ints L) (by rw [ints_length, HO2.out.len]; simp) (HO2.out.source _) (by rw [ints_length, HO2.out.len]; simp) (by simp [ints, Value.oneCell']) w2.heap.size w2 hb4 (Nat.le_refl _) ?_); go_must (intro w4 HM3 hb5)))
    have hOut : Oi w4 w.heap.size (some ⟨w2.heap.size, 0, none⟩) (N + 1) (N + 1) L := by
      have hL := HO2.out.len
      have e : splice (List.replicate (N + 1) (Value.int .i64 0)) 0 (ints L) = ints L := by
        unfold splice
        rw [List.take_zero, List.nil_append, List.drop_of_length_le (by rw [List.length_replicate, ints_length, hL]; omega), List.append_nil]
      have h := HM3.out
      rw [e] at h
      refine ⟨by rw [ints_length, hL]; omega, .inr ⟨w2.heap.size, N + 1, (ints L).toArray, rfl, hs1, h, Nat.le_refl _, by unfold maxLen; omega, by rw [List.size_toArray, ints_length, hL]; omega, ?_⟩⟩
      exact List.take_of_length_le (by show (ints L).length ≤ (N + 1) * 1; rw [ints_length, hL]; omega)
    go_ret2
    exact ⟨_, _, _, ret_le HE.out.2, hOut, hb3.trans (hb5.mono hs1)⟩
  · have HE : Hid ([] = L ∧ q = r) := Lib.hid (by
      have e := HR.out
      unfold heightsS at e
      rw [if_neg (by rw [HQ.out]; exact h0), HQ.out] at e
      cases e
      exact ⟨rfl, rfl⟩)
    have hq := ne0 h0
    go_enter Try.func31, Try.ntmps31
    go_wp2_with fail
    refine (fOpen1_err A n c cs a w hx hn hc q HQ h0).mono ?_
    rintro e w1 ⟨rfl, hb1⟩
    go_wp2
    go_ret2
    exact ⟨none, 0, 0, ret_le HE.out.2, by rw [← HE.out.1]; exact Oi.nil_ _ _, hb1⟩
set_option maxHeartbeats 2000000 in
theorem fCheckBadT (A : Option Addr) (n c : Nat) (cs : List Int) (w : World) (hx : Ri w w.heap.size A n cs) (hn : n ≤ 1048576) (hc : n ≤ c) (a r : Int) (HR : Hid (checkBadS cs a = r)) : Calls Try.prog 37 #[.slice A n c, .int .i64 a] w (RetI w r) := by
  have HL := Lib.hid hx.len
  obtain ⟨v, e, HFE⟩ : ∃ v e, Hid (fewestS cs a = (v, e)) := ⟨_, _, Lib.hid rfl⟩
  by_cases h0 : e = 0
  · subst h0
    have HB : Hid (badOf cs a = r) := Lib.hid (by
      have h := HR.out
      unfold checkBadS at h
      rwa [if_pos (by rw [HFE.out])] at h)
    have hok : amountE cs a = 0 ∧ few cs a.toNat = v := by
      have h := HFE.out
      unfold fewestS at h
      split at h
      · rename_i h1
        split at h
        · cases h
        · cases h; exact ⟨h1, rfl⟩
      · rename_i h1
        exact absurd (congrArg Prod.snd h) h1
    obtain ⟨hg, ha0, ha1⟩ := amountE_ok.1 hok.1
    have HG := Lib.hid hg
    have hn5 : n ≤ 5 := by rw [← HL.out]; exact hg.hi
    have hp := (greedy_facts cs a hg.pos ha0).1
    have hgl := (greedy_facts cs a hg.pos ha0).2
    have hvb : v ≤ 300 := by rw [← hok.2]; have := few_le hg.pos a.toNat; omega
    have hv0 : -1 ≤ v := by rw [← hok.2]; exact (few_le hg.pos a.toNat).1
    obtain ⟨G, HGL⟩ : ∃ G, Hid ((greedyL cs a).1 = G) := ⟨_, Lib.hid rfl⟩
    have HV : Hid (∀ x ∈ G, 0 ≤ x ∧ x ≤ 1000) := Lib.hid (fun x hxm => by
      rw [← HGL.out] at hxm
      have := pays_small hg.pos hp x hxm
      omega)
    obtain ⟨s, HS⟩ : ∃ g, Hid ((greedyL cs a).2 = g) := ⟨_, Lib.hid rfl⟩
    have HE : Hid ((if s = 0 ∧ G.sum = v then (16 : Int) else 0) = r) := Lib.hid (by rw [← HS.out, ← HGL.out, ← hok.2]; exact HB.out)
    clear hg hok hp hgl
    go_enter Try.func37, Try.ntmps37
    go_wp2_with fail
    refine (fFewestT _ _ _ _ _ _ hx hn hc _ _ HFE).mono ?_
    rintro e w1 ⟨rfl, hb1⟩
    have hx1 := hx.next hb1 (Nat.le_refl _) hb1.size
    go_wp2_with fail
    refine (fNewTill A n c w1 hn5).mono ?_
    rintro e w2 ⟨rfl, ht, hb2⟩
    have hx2 := hx1.next hb2 (Nat.le_refl _) hb2.size
    go_wp2_with fail
    refine (dGreedy _ _ 0 A n c _ cs a _ HG ha0 ha1 w2 ht hx2).mono ?_
    rintro e w3 ⟨A', c', rfl, ho, hb3⟩
    have hb4 := (hb1.trans (hb2.mono hb1.size)).trans (hb3.mono (hb1.trans (hb2.mono hb1.size)).size)
    rw [HGL.out] at ho
    rw [HS.out]
    have hor := ho.ri
    have HLG := Lib.hid hor.len
    clear hb1 hb2 hb3 ho
    go_wp2
    go_loop [5, 29] (fun t i => ∃ k : Nat, k ≤ n ∧ i = .int .i64 k ∧ t = .int .i64 (v - sumTo' G k)) (fun _ i => n - (intOf i).toNat)
    case atStart => exact ⟨0, Nat.zero_le _, rfl, by simp [sumTo']⟩
    case round =>
      obtain ⟨k, hk, rfl, rfl⟩ := hrel
      by_cases hlt : k < n
      · obtain ⟨ad, x, rfl, _, cx, hxk, _⟩ := hor.at_ hlt
        have b1 := sums_bd (cs := []) (v := G) (by simp) HV.out k
        have e2 := sumTo'_succ hxk.out
        have hb2 := HV.out x (List.mem_of_getElem? hxk.out)
        have HY := Lib.hid e2
        obtain ⟨q, HQ2⟩ : ∃ p, Hid (sumTo' G k = p) := ⟨_, Lib.hid rfl⟩
        rw [HQ2.out] at b1 ⊢
        clear e2
        have hw3 : IntKind.i64.wrap (v - q - x) = v - q - x := IntWalk.i64_in _ (by omega)
        go_wp2
        go_round
        case rel => exact ⟨k + 1, by omega, by go_num, by rw [HY.out, HQ2.out, Int.sub_sub]⟩
        case measure => simp [intOf]; omega
      · obtain rfl : k = n := by omega
        have HK : Hid (sumTo' G k = G.sum) := Lib.hid (sumTo'_all HLG.out)
        rw [HK.out]
        obtain ⟨u, hu⟩ : ∃ u, v - G.sum = u := ⟨_, rfl⟩
        have HU := Lib.hid hu
        rw [hu]
        clear hu
        by_cases hs : s = 0
        · by_cases hgv : u = 0
          · have HE2 : Hid (16 = r) := Lib.hid (by have h := HE.out; rwa [if_pos ⟨hs, by have := HU.out; omega⟩] at h)
            have q1 : (s == 0) = true := by simp [hs]
            have q2 : (u == 0) = true := by simp [hgv]
            clear hs hgv
            go_wp2
            go_ret
            exact ⟨ret_i HE2.out, hb4⟩
          · have HE2 : Hid (0 = r) := Lib.hid (by have h := HE.out; rwa [if_neg (fun x => hgv (by have := HU.out; have := x.2; omega))] at h)
            have q1 : (s == 0) = true := by simp [hs]
            have q2 : (u == 0) = false := by simp [hgv]
            clear hs hgv
            go_wp2
            go_ret
            exact ⟨ret_i HE2.out, hb4⟩
        · have HE2 : Hid (0 = r) := Lib.hid (by have h := HE.out; rwa [if_neg (fun x => hs x.1)] at h)
          have q1 : (s == 0) = false := by simp [hs]
          clear hs
          go_wp2
          go_ret
          exact ⟨ret_i HE2.out, hb4⟩
  · have HE : Hid (e = r) := Lib.hid (by
      have h := HR.out
      unfold checkBadS at h
      rwa [if_neg (by rw [HFE.out]; exact h0), HFE.out] at h)
    have hq := ne0 h0
    go_enter Try.func37, Try.ntmps37
    go_wp2_with fail
    refine (fFewestT _ _ _ _ _ _ hx hn hc _ _ HFE).mono ?_
    rintro e w1 ⟨rfl, hb1⟩
    go_wp2
    go_ret
    exact ⟨ret_i HE.out, hb1⟩
end Go.Proofs.Ytloibnmhgocboaa
