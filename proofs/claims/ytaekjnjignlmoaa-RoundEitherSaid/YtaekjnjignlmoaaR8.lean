/-
  The reference: 'Good'. Printed by gen_r7.py.
-/
import Derived.Test.YtaekjnjignlmoaaR7
import Derived.Test.YtaekjnjignlmoaaR4
namespace Go.Proofs.Ytaekjnjignlmoaa
open Go.RowKit Go.Shelf

/-- 'out = append(out, row)'. -/
theorem push_row2 {w : World} {ops : Array Oper} {rest : List Oper} {o : Oper} {a : Act} {Q : Exit → Act → World → Prop} (hgd : o.guard = none) (s x : Operand)
    (ho : o.op = .call { callee := .builtin .append, args := #[s, x], argTypes := #[61, 61] })
    (ob base : Nat) (A : Option Addr) (n c m : Nat) (Ls : List (List Int)) (hs : a.eval s = .slice A n c) (hown : RR2 w ob base A n c m Ls)
    (ad : Addr) (c1 : Nat) (g0 c0 : Nat) (L : List Int) (hx : a.eval x = .slice (some ad) 1 c1) (hz : w.cell? ad = some (.slice (some ⟨g0, 0, none⟩) m c0)) (hrow : Oj w base (some ⟨g0, 0, none⟩) m c0 L) (hlen : n < 1048576) (hbase : ob ≤ w.heap.size)
    (h : ∀ g cap w', RR2 w' ob base (some ⟨g, 0, none⟩) (n + 1) cap m (Ls ++ [L]) → w.grownBy w' (A.map Addr.block) → wpList Try.prog ops Q rest (a.put o.dst (.slice (some ⟨g, 0, none⟩) (n + 1) cap)) w') : wpList Try.prog ops Q (o :: rest) a w := by
  obtain ⟨i0, hi, hz0, hz1, hz2⟩ := info_parts info_rowj
  obtain ⟨vs, h1, h2⟩ := hown
  have hm : n + 1 ≤ maxLen := by unfold maxLen; omega
  refine wpList_append_own w hgd s x _ ho ob _ i0 _ 1 24 under_rowsj hi hz0 hz1 hz2 rfl (by decide) _ n vs hs h1 ad 1 c1 [.slice (some ⟨g0, 0, none⟩) m c0] hx rfl ?_ (by simp [Value.oneCell']) hm (by omega) hbase ?_
  · intro j u hj
    match j, hj with
    | 0, hj => simp at hj; subst hj; exact hz
  · intro v' w' hown' hgrow _
    obtain ⟨g, cap, hv, _, _⟩ := hown'.form (by omega)
    subst hv
    have hgr : w.grownBy w' (A.map Addr.block) := by cases A <;> exact hgrow
    refine h g cap w' ⟨_, hown', ?_⟩ hgr
    have hk : ∀ (g c' : Nat) (L : List Int), Oj w base (some ⟨g, 0, none⟩) m c' L → Oj w' base (some ⟨g, 0, none⟩) m c' L := fun g c' L hO => by
      refine hO.kept hgr ?_
      rcases own_ne hO h1 (by decide) with h3 | h3
      · exact .inl h3
      · refine .inr fun e => h3 ?_
        cases A with
        | none => simp at e
        | some ad => simpa [Value.ownBlock] using e
    refine ⟨by simp [h2.1], fun i L' hL => ?_⟩
    rcases Nat.lt_or_ge i Ls.length with hi3 | hi3
    · rw [List.getElem?_append_left hi3] at hL
      obtain ⟨g1, c1', h5, h6⟩ := h2.2 i L' hL
      exact ⟨g1, c1', by rw [List.getElem?_append_left (by rw [h2.1]; exact hi3)]; exact h5, hk _ _ _ h6⟩
    · have hi4 : i = Ls.length := by
        have := (List.getElem?_eq_some_iff.1 hL).1
        simp at this
        omega
      subst hi4
      simp at hL
      subst hL
      exact ⟨g0, c0, by rw [← h2.1]; simp, hk _ _ _ hrow⟩
/-- What a call that returns rows to be read comes to. -/
def RetRj (w : World) (N m : Nat) (Ls : List (List Nat)) (e : Ending) (w' : World) : Prop := ∃ (A : Option Addr) (c : Nat), e = .returned (.slice A N c) ∧ RRj w' w.heap.size A N c m (Ls.map ofN) ∧ Below w.heap.size w w'
set_option maxRecDepth 100000 in
set_option maxHeartbeats 8000000 in
theorem rGood (b : Int) (A : Option Addr) (n c : Nat) (ps : List (Int × Int)) (w : World) (h_p : Rp w w.heap.size A n ps) (HP : Hid (Pier b ps)) (NG : Nat) (HNG : Hid ((goodR b ps).length = NG)) :
    Calls Try.prog 48 #[.agg #[.int .i64 b, .slice A n c]] w (RetRj w NG n (goodR b ps)) := by
  have HL := Lib.hid h_p.len
  have hn1 : 1 ≤ n := by rw [← HL.out]; exact HP.out.lo
  have hn10 : n ≤ 10 := by rw [← HL.out]; exact HP.out.hi
  obtain ⟨NA, HNA⟩ : ∃ N, Hid ((allR b ps).length = N) := ⟨_, Lib.hid rfl⟩
  have hmix : Try.prog.follows .mixedOrders = true := by kernel_rfl
  have k1 := Bk.new w 24 #[.int .i64 b, .slice A n c]
  have hb : Below w.heap.size w (w.alloc (.cells #[.int .i64 b, .slice A n c] 24)) := (Below.refl _ _).alloc (Nat.le_refl _) _
  have q0 := k1.cell 0
  have q1 := k1.cell 1
  go_enter Try.func48, Try.ntmps48
  go_wp2_with fail
  clear q0 q1
  obtain ⟨u1, hu⟩ : ∃ k, w.heap.size = k := ⟨_, rfl⟩
  obtain ⟨w1, hW⟩ : ∃ W, w.alloc (.cells #[.int .i64 b, .slice A n c] 24) = W := ⟨_, rfl⟩
  rw [hW] at k1 hb ⊢
  rw [hu] at k1 ⊢
  clear hW
  have HU := Lib.hid hu
  clear hu
  have Bw1 : Below w.heap.size w w1 := hb
  replace h_p := h_p.next hb (Nat.le_refl _) hb.size
  clear hb
  have hsw1 := Bw1.size
  refine (rAll b A n c ps _ h_p HP NA HNA).mono ?_
  rintro e w2 ⟨Al, cl, rfl, hro, hb⟩
  have Bw2 : Below w.heap.size w w2 := Bw1.trans (hb.mono Bw1.size)
  replace h_p := h_p.next hb (Nat.le_refl _) hb.size
  replace k1 := k1.below hb k1.lt
  clear Bw1
  clear hb
  have h_l := hro.rrj (Nat.le_refl _)
  clear hro
  have hal := h_l.len
  have d_k1_0 := k1.cell 0
  have d_k1_1 := k1.cell 1
  go_wp2
  clear d_k1_0 d_k1_1
  have hul : w.heap.size ≤ w2.heap.size := Bw2.size
  go_loopw [4, 5] (fun o i wr => ∃ (k M : Nat) (A' : Option Addr) (c' : Nat), k ≤ NA ∧ i = .int .i64 (k : Int) ∧ o = .slice A' M c' ∧ RR2 wr w2.heap.size w.heap.size A' M c' n ((((allR b ps).take k).filter (inTimeB b ps)).map ofN) ∧ Below w2.heap.size w2 wr) (fun _ i _ => NA - (intOf i).toNat)
  case atStart => exact ⟨0, 0, none, 0, Nat.zero_le _, rfl, rfl, by simpa using RR2.nil_ _ _ _ _, Below.refl _ _⟩
  case round =>
    obtain ⟨k, M, A', c', hk, rfl, rfl, hout, hbr⟩ := hrel
    have hM : M ≤ k := by
      have h1 := hout.len
      rw [List.length_map] at h1
      have h2 := List.length_filter_le (inTimeB b ps) ((allR b ps).take k)
      rw [List.length_take] at h2
      omega
    have hNA := allR_many HP.out
    rw [HNA.out] at hNA

    obtain ⟨w3, hW⟩ : ∃ W : World, wr = W := ⟨_, rfl⟩
    rw [hW] at hbr hout ⊢
    clear hW
    have hb := hbr
    have Bl := hbr
    clear hbr
    have h_l2 := h_l.below hb
    have Bw3 : Below w.heap.size w w3 := Bw2.trans (hb.mono Bw2.size)
    replace h_p := h_p.next hb (Nat.le_refl _) hb.size
    replace k1 := k1.below hb k1.lt
    clear Bw2
    clear hb
    by_cases hlt : k < NA
    · obtain ⟨ad, g, cg, L, rfl, _, _, cl0, HLk, hrow⟩ := h_l2.at_ hlt
      obtain ⟨l, HLl⟩ : ∃ l, Hid ((allR b ps)[k]? = some l) := ⟨_, Lib.hid (List.getElem?_eq_getElem (by rw [HNA.out]; exact hlt))⟩
      have HLo : Hid (L = ofN l) := Lib.hid (by
        have h1 := HLk.out
        rw [List.getElem?_map, HLl.out] at h1
        exact (Option.some.inj h1).symm)
      rw [HLo.out] at hrow
      have HAl : Hid (l ∈ allR b ps) := Lib.hid (List.mem_of_getElem? HLl.out)
      have h_r := hrow.ri
      have h_ro := hrow
      clear hrow
      obtain ⟨T, HT⟩ : ∃ T, Hid ((stepsL b ps l).take n = T) := ⟨_, Lib.hid rfl⟩
      obtain ⟨r, HR⟩ : ∃ r, Hid (decide (∀ i : Nat, i < n → nth T i ≤ too ps i) = r) := ⟨_, Lib.hid rfl⟩
      have HIT : Hid (inTimeB b ps l = r) := Lib.hid (by
        rw [← HR.out, ← HT.out]
        have h1 := inTime_iff HP.out HAl.out
        rw [HL.out] at h1
        cases hx : inTimeB b ps l with
        | true => exact (decide_eq_true fun i hi => by rw [nth_take hi]; exact h1.1 hx i hi).symm
        | false => exact (decide_eq_false fun h => by rw [h1.2 fun i hi => by have := h i hi; rwa [nth_take hi] at this] at hx; cases hx).symm)
      have HTK : Hid (((allR b ps).take (k + 1)).filter (inTimeB b ps) = ((allR b ps).take k).filter (inTimeB b ps) ++ if r then [l] else []) := Lib.hid (by
        rw [take_snoc HLl.out, List.filter_append]
        congr 1
        simp [List.filter_cons, HIT.out])
      have d_k1_0 := k1.cell 0
      have d_k1_1 := k1.cell 1
      go_wp2
      clear d_k1_0 d_k1_1
      have e_k1_0 := k1.drew.cell 0
      have e_k1_1 := k1.drew.cell 1
      have e_cl0 : w3.drew.cell? (ad.add k) = some (.slice (some ⟨g, 0, none⟩) n cg) := cl0
      refine wp_region_noPanic ?_
      refine wp_region_held_drew (S := fun V => V.cell? ⟨u1, 0, none⟩ = some (.int .i64 b) ∧ V.cell? ⟨u1, 1, none⟩ = some (.slice A n c) ∧ V.cell? (ad.add k) = some (.slice (some ⟨g, 0, none⟩) n cg)) hmix ⟨e_k1_0, e_k1_1, e_cl0⟩ (fun hS => ?_)
      clear e_k1_0 e_k1_1 e_cl0
      obtain ⟨w4, hW⟩ : ∃ W, w3.drew = W := ⟨_, rfl⟩
      have hb : Below w3.heap.size w3 w4 := hW ▸ below_drewN (Below.refl _ _) 1
      rw [hW] at hS ⊢
      clear hW
      have Bw4 : Below w.heap.size w w4 := Bw3.trans (hb.mono Bw3.size)
      replace h_p := h_p.next hb (Nat.le_refl _) hb.size
      replace k1 := k1.below hb k1.lt
      replace Bl := Bl.trans (hb.mono Bl.size)
      replace h_r := h_r.next hb (Nat.le_refl _) hb.size
      replace h_ro := h_ro.below hb
      replace hout := hout.below hb
      replace cl0 := (hb.cell (World.block_lt_of_cell? _ _ cl0)).trans cl0
      clear Bw3
      clear hb
      refine wpAnyH_take (i := 0) (v := ?_) rfl (by kernel_rfl) (by kernel_rfl) (by kernel_rfl) (fun _ _ _ h => h) (Or.inl ⟨by rfl, ?_⟩) hS ?_
      rotate_left
      · intro w hSw
        (try dsimp only at hSw)
        go_simp
        (try with_reducible rfl)
      try simp (maxSteps := 10000000) only [Act.put, List.setIfInBounds_toArray, List.set_cons_zero, List.set_cons_succ, List.getElem_toArray, List.getElem_cons_zero]
      refine wpAnyH_take (i := 1) (v := ?_) rfl (by kernel_rfl) (by kernel_rfl) (by kernel_rfl) (fun _ _ _ h => h) (Or.inl ⟨by rfl, ?_⟩) hS ?_
      rotate_left
      · intro w hSw
        (try dsimp only at hSw)
        go_simp
        (try with_reducible rfl)
      try simp (maxSteps := 10000000) only [Act.put, List.setIfInBounds_toArray, List.set_cons_zero, List.set_cons_succ, List.getElem_toArray, List.getElem_cons_zero, List.getElem_cons_succ]
      refine wpAnyH_take (i := 2) (v := ?_) rfl (by kernel_rfl) (by kernel_rfl) (by kernel_rfl) (fun _ _ _ h => h) (Or.inl ⟨by rfl, ?_⟩) hS ?_
      rotate_left
      · intro w hSw
        (try dsimp only at hSw)
        go_simp
        (try with_reducible rfl)
      try simp (maxSteps := 10000000) only [Act.put, List.setIfInBounds_toArray, List.set_cons_zero, List.set_cons_succ, List.getElem_toArray, List.getElem_cons_zero, List.getElem_cons_succ]
      refine wpAnyH_take (i := 3) (v := ?_) rfl (by kernel_rfl) (by kernel_rfl) (by kernel_rfl) (fun _ _ _ h => h) (Or.inl ⟨by rfl, ?_⟩) hS ?_
      rotate_left
      · intro w hSw
        (try dsimp only at hSw)
        go_simp
        (try with_reducible rfl)
      try simp (maxSteps := 10000000) only [Act.put, List.setIfInBounds_toArray, List.set_cons_zero, List.set_cons_succ, List.getElem_toArray, List.getElem_cons_zero, List.getElem_cons_succ]
      refine wpAnyH_take (i := 4) (v := ?_) rfl (by kernel_rfl) (by kernel_rfl) (by kernel_rfl) (fun _ _ _ h => h) (Or.inl ⟨by rfl, ?_⟩) hS ?_
      rotate_left
      · intro w hSw
        (try dsimp only at hSw)
        go_simp
        (try with_reducible rfl)
      try simp (maxSteps := 10000000) only [Act.put, List.setIfInBounds_toArray, List.set_cons_zero, List.set_cons_succ, List.getElem_toArray, List.getElem_cons_zero, List.getElem_cons_succ]
      refine wpAnyH_take (i := 5) (v := ?_) rfl (by kernel_rfl) (by kernel_rfl) (by kernel_rfl) (fun _ _ _ h => h) (Or.inl ⟨by rfl, ?_⟩) hS ?_
      rotate_left
      · intro w hSw
        (try dsimp only at hSw)
        go_simp
        (try with_reducible rfl)
      try simp (maxSteps := 10000000) only [Act.put, List.setIfInBounds_toArray, List.set_cons_zero, List.set_cons_succ, List.getElem_toArray, List.getElem_cons_zero, List.getElem_cons_succ]
      refine wpAnyH_ready (rs := [6]) (by kernel_rfl) (by simp) ?_
      refine AllReadyH.cons rfl (fun K hK => ?_) AllReadyH.nil
      go_simp
      refine (rStepsOf b A n c ps _ n cg l _ h_p HP h_r HAl T HT).mono ?_
      rintro e w5 ⟨As, ns, cs, rfl, ho, hb⟩
      have Bw5 : Below w.heap.size w w5 := Bw4.trans (hb.mono Bw4.size)
      replace h_p := h_p.next hb (Nat.le_refl _) hb.size
      replace k1 := k1.below hb k1.lt
      replace Bl := Bl.trans (hb.mono Bl.size)
      replace h_r := h_r.next hb (Nat.le_refl _) hb.size
      replace h_ro := h_ro.below hb
      replace hout := hout.below hb
      replace cl0 := (hb.cell (World.block_lt_of_cell? _ _ cl0)).trans cl0
      clear Bw4
      clear hb
      have h_s := ho.ri
      clear ho
      obtain rfl : ns = n := by
        have h1 := h_s.len
        obtain ⟨s, hs, hkk, _⟩ := full_round HP.out HAl.out
        rw [← HT.out, stepsL_some hs, List.length_take, hkk.out] at h1
        omega
      refine hK.out _ _ ⟨k1.cell 0, k1.cell 1, cl0⟩ (fun hS => ?_)
      clear hK K
      try simp (maxSteps := 10000000) only [Act.put, List.setIfInBounds_toArray, List.set_cons_zero, List.set_cons_succ, List.getElem_toArray, List.getElem_cons_zero, List.getElem_cons_succ]
      refine wpAnyH_ready (rs := [7]) (by kernel_rfl) (by simp) ?_
      refine AllReadyH.cons rfl (fun K hK => ?_) AllReadyH.nil
      go_simp
      refine (rInTime b A ns c ps _ ns cs T _ h_p h_s rfl (by omega) r HR).mono ?_
      rintro e w6 ⟨rfl, hb⟩
      have Bw6 : Below w.heap.size w w6 := Bw5.trans (hb.mono Bw5.size)
      replace h_p := h_p.next hb (Nat.le_refl _) hb.size
      replace k1 := k1.below hb k1.lt
      replace Bl := Bl.trans (hb.mono Bl.size)
      replace h_r := h_r.next hb (Nat.le_refl _) hb.size
      replace h_ro := h_ro.below hb
      replace hout := hout.below hb
      replace cl0 := (hb.cell (World.block_lt_of_cell? _ _ cl0)).trans cl0
      replace h_s := h_s.next hb (Nat.le_refl _) hb.size
      clear Bw5
      clear hb
      refine hK.out _ _ ⟨k1.cell 0, k1.cell 1, cl0⟩ (fun hS => ?_)
      clear hK K
      try simp (maxSteps := 10000000) only [Act.put, List.setIfInBounds_toArray, List.set_cons_zero, List.set_cons_succ, List.getElem_toArray, List.getElem_cons_zero, List.getElem_cons_succ]
      refine wpAnyH_done (by kernel_rfl) (NoPanic.normal ?_) _
      clear hS
      cases r
      · have d_k1_0 := k1.cell 0
        have d_k1_1 := k1.cell 1
        go_wp2
        clear d_k1_0 d_k1_1
        go_roundw
        case rel => exact ⟨k + 1, M, A', c', by omega, by go_num, rfl, by rw [HTK.out]; simpa using hout, Bl⟩
        case measure => simp [intOf]; omega
      · have d_k1_0 := k1.cell 0
        have d_k1_1 := k1.cell 1
        go_wp2_with (at_builtin; refine push_row2 rfl (.tmp 22) (.tmp 27) rfl w2.heap.size w.heap.size A' M c' ns _ rfl (hout.alloc _) ⟨w6.heap.size, 0, none⟩ 1 g cg (ofN l) rfl (cell_new1 _ _ _) ((h_ro.base hsw1).alloc _) (by omega) (by have := Bl.size; simp; omega) ?_; intro g3 cap3 v3 hr3 hg3)
        clear d_k1_0 d_k1_1
        go_roundw
        case rel => exact ⟨k + 1, M + 1, some ⟨g3, 0, none⟩, cap3, by omega, by go_num, rfl, by rw [HTK.out, List.map_append]; exact hr3, (Bl.alloc Bl.size _).grown hg3 (by have := Bl.size; simp; omega) (fun r e => (hout.lt r e).1)⟩
        case measure => simp [intOf]; omega
    · have HFN : Hid (((allR b ps).take k).filter (inTimeB b ps) = goodR b ps) := Lib.hid (by
        rw [List.take_of_length_le (by rw [HNA.out]; omega)]
        rfl)
      rw [HFN.out] at hout
      have hMN : M = NG := by have h1 := hout.len; rw [List.length_map, HNG.out] at h1; exact h1.symm
      subst hMN
      go_wp2
      go_ret
      exact ⟨A', c', rfl, (hout.base_ hul).rrj (Nat.le_refl _), Bw3⟩
end Go.Proofs.Ytaekjnjignlmoaa
