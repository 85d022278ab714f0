/-
  The library: slices.Min, slices.Max; the program: 'Delay'.
-/
import Derived.Test.YtaekjnjignlmoaaG
import Derived.Test.YtaekjnjignlmoaaRz
namespace Go.Proofs.Ytaekjnjignlmoaa
open Go.RowKit Go.Shelf
attribute [local go_sem] Oper.semAt_some

theorem take_ne {α : Type} {l : List α} {k : Nat} (h1 : 1 ≤ k) (h2 : 1 ≤ l.length) : l.take k ≠ [] := by
  intro e
  have := congrArg List.length e
  rw [List.length_take, List.length_nil] at this
  omega
theorem take1 {xs : List Int} {x : Int} (h : xs[0]? = some x) : xs.take 1 = [x] := by
  rw [take_snoc h]
  simp
set_option maxRecDepth 100000 in
set_option maxHeartbeats 1000000 in
theorem lMin (A : Option Addr) (n c B : Nat) (xs : List Int) (w : World) (hx : Ri w B A n xs) (hn : n ≤ 1099511627776) (h0 : 0 < n) :
    Calls Try.prog 72 #[.slice A n c] w fun e w' => e = .returned (.int .i64 (minOf xs)) ∧ w = w' := by
  have HL := Lib.hid hx.len
  obtain ⟨ad, x0, rfl, _, c0, hx0, _⟩ := hx.at_ h0
  have HT1 : Hid (minOf (xs.take 1) = x0) := Lib.hid (by rw [take1 hx0.out]; rfl)
  rw [addr_zero] at c0
  have hn1 : ¬ (n : Int) < 1 := by omega
  go_enter Try.func72, Try.ntmps72
  go_wp2
  go_loop [3, 4] (fun m i => ∃ k : Nat, 1 ≤ k ∧ k ≤ n ∧ i = .int .i64 k ∧ m = .int .i64 (minOf (xs.take k))) (fun _ i => n - (intOf i).toNat)
  case atStart => exact ⟨1, by omega, by omega, rfl, by rw [HT1.out]⟩
  case round =>
    obtain ⟨k, hk1, hk, rfl, rfl⟩ := hrel
    obtain ⟨m, HM⟩ : ∃ m, Hid (minOf (xs.take k) = m) := ⟨_, Lib.hid rfl⟩
    rw [HM.out]
    by_cases hlt : k < n
    · obtain ⟨ad', x, hA, _, hc, hxk, _⟩ := hx.at_ hlt
      obtain rfl : ad = ad' := Option.some.inj hA
      have HS : Hid (minOf (xs.take (k + 1)) = if x < m then x else m) := Lib.hid (by rw [take_snoc hxk.out, minOf_snoc (take_ne hk1 (by rw [HL.out]; omega)), HM.out])
      by_cases hxm : x < m
      · have HS2 : Hid (minOf (xs.take (k + 1)) = x) := Lib.hid (by rw [HS.out, if_pos hxm])
        go_wp2
        go_round
        case rel => exact ⟨k + 1, by omega, by omega, by go_num, by rw [HS2.out]⟩
        case measure => simp [intOf]; omega
      · have HS2 : Hid (minOf (xs.take (k + 1)) = m) := Lib.hid (by rw [HS.out, if_neg hxm])
        go_wp2
        go_round
        case rel => exact ⟨k + 1, by omega, by omega, by go_num, by rw [HS2.out]⟩
        case measure => simp [intOf]; omega
    · have HE : Hid (m = minOf xs) := Lib.hid (by rw [← HM.out, List.take_of_length_le (by rw [HL.out]; omega)])
      go_wp2
      go_ret
      exact ⟨ret_i HE.out, rfl⟩
set_option maxRecDepth 100000 in
set_option maxHeartbeats 1000000 in
theorem lMax (A : Option Addr) (n c B : Nat) (xs : List Int) (w : World) (hx : Ri w B A n xs) (hn : n ≤ 1099511627776) (h0 : 0 < n) :
    Calls Try.prog 73 #[.slice A n c] w fun e w' => e = .returned (.int .i64 (maxOf xs)) ∧ w = w' := by
  have HL := Lib.hid hx.len
  obtain ⟨ad, x0, rfl, _, c0, hx0, _⟩ := hx.at_ h0
  have HT1 : Hid (maxOf (xs.take 1) = x0) := Lib.hid (by rw [take1 hx0.out]; rfl)
  rw [addr_zero] at c0
  have hn1 : ¬ (n : Int) < 1 := by omega
  go_enter Try.func73, Try.ntmps73
  go_wp2
  go_loop [3, 4] (fun m i => ∃ k : Nat, 1 ≤ k ∧ k ≤ n ∧ i = .int .i64 k ∧ m = .int .i64 (maxOf (xs.take k))) (fun _ i => n - (intOf i).toNat)
  case atStart => exact ⟨1, by omega, by omega, rfl, by rw [HT1.out]⟩
  case round =>
    obtain ⟨k, hk1, hk, rfl, rfl⟩ := hrel
    obtain ⟨m, HM⟩ : ∃ m, Hid (maxOf (xs.take k) = m) := ⟨_, Lib.hid rfl⟩
    rw [HM.out]
    by_cases hlt : k < n
    · obtain ⟨ad', x, hA, _, hc, hxk, _⟩ := hx.at_ hlt
      obtain rfl : ad = ad' := Option.some.inj hA
      have HS : Hid (maxOf (xs.take (k + 1)) = if m < x then x else m) := Lib.hid (by rw [take_snoc hxk.out, maxOf_snoc (take_ne hk1 (by rw [HL.out]; omega)), HM.out]; rfl)
      by_cases hxm : m < x
      · have HS2 : Hid (maxOf (xs.take (k + 1)) = x) := Lib.hid (by rw [HS.out, if_pos hxm])
        go_wp2
        go_round
        case rel => exact ⟨k + 1, by omega, by omega, by go_num, by rw [HS2.out]⟩
        case measure => simp [intOf]; omega
      · have HS2 : Hid (maxOf (xs.take (k + 1)) = m) := Lib.hid (by rw [HS.out, if_neg hxm])
        go_wp2
        go_round
        case rel => exact ⟨k + 1, by omega, by omega, by go_num, by rw [HS2.out]⟩
        case measure => simp [intOf]; omega
    · have HE : Hid (m = maxOf xs) := Lib.hid (by rw [← HM.out, List.take_of_length_le (by rw [HL.out]; omega)])
      go_wp2
      go_ret
      exact ⟨ret_i HE.out, rfl⟩

set_option maxRecDepth 100000 in
set_option maxHeartbeats 1000000 in
theorem fDelay_err (b : Int) (A : Option Addr) (n c : Nat) (ps : List (Int × Int)) (w : World) (hx : Rp w w.heap.size A n ps) (hn : n ≤ 1048576) (q : Int) (HP : Hid (checkPier b ps = q)) (hq : ¬ q = 0) :
    Calls Try.prog 33 #[.agg #[.int .i64 b, .slice A n c]] w (RetII w 0 q) := by
  have hbk0 := Bk.new w 24 #[.int .i64 b, .slice A n c]
  have hc0 : (w.alloc (.cells #[.int .i64 b, .slice A n c] 24)).cell? ⟨w.heap.size, 0, none⟩ = some (.int .i64 b) := hbk0.cell 0
  have hc1 : (w.alloc (.cells #[.int .i64 b, .slice A n c] 24)).cell? ⟨w.heap.size, 1, none⟩ = some (.slice A n c) := hbk0.cell 1
  have hb0 : Below w.heap.size w (w.alloc (.cells #[.int .i64 b, .slice A n c] 24)) := (Below.refl _ w).alloc (Nat.le_refl _) _
  have hx0 := hx.next hb0 (Nat.le_refl _) hb0.size
  go_enter Try.func33, Try.ntmps33
  go_wp2_with fail
  refine (fOpen_err b A n c ps _ hx0 hn q HP hq).mono ?_
  rintro e w1 ⟨rfl, hb⟩
  go_wp2
  go_ret2
  exact ⟨rfl, (hb0.trans (hb.mono (by simp))).alloc (by have := hb.size; simp at this; omega) _⟩

/-- By how much each of some rounds is late. -/
def lateLs (b : Int) (ps : List (Int × Int)) (Ls : List (List Nat)) : List Int := Ls.map fun l => lateL ps (stepsL b ps l)
set_option maxRecDepth 100000 in
set_option maxHeartbeats 2000000 in
theorem fDelay_ok (b : Int) (A : Option Addr) (n c : Nat) (ps : List (Int × Int)) (w : World) (hx : Rp w w.heap.size A n ps) (hn : n ≤ 1048576) (hc : n ≤ c) (HP : Hid (Pier b ps)) :
    Calls Try.prog 33 #[.agg #[.int .i64 b, .slice A n c]] w (RetII w (minOf (lateLs b ps (allR b ps))) 0) := by
  have HCP : Hid (checkPier b ps = 0) := Lib.hid (checkPier_ok.2 HP.out)
  have hbk0 := Bk.new w 24 #[.int .i64 b, .slice A n c]
  have hc0 : (w.alloc (.cells #[.int .i64 b, .slice A n c] 24)).cell? ⟨w.heap.size, 0, none⟩ = some (.int .i64 b) := hbk0.cell 0
  have hc1 : (w.alloc (.cells #[.int .i64 b, .slice A n c] 24)).cell? ⟨w.heap.size, 1, none⟩ = some (.slice A n c) := hbk0.cell 1
  have hb0 : Below w.heap.size w (w.alloc (.cells #[.int .i64 b, .slice A n c] 24)) := (Below.refl _ w).alloc (Nat.le_refl _) _
  have hx0 := hx.next hb0 (Nat.le_refl _) hb0.size
  have hmf : ∀ (fn : Fn) (first cap : Array Value) (w : World), (Instr.makeFunc fn first cap).run Try.prog w = .ok (.func fn first cap) w := fun _ _ _ _ => rfl
  have hmix : Try.prog.follows .mixedOrders = true := by kernel_rfl
  refine (callsIn_wide (n := 5)).1 ?_
  refine callsIn_of_wp_marks Try.func33 rfl trivial ?_ rfl
  simp only [Try.ntmps33, List.size_toArray, List.length_cons, List.length_nil, Nat.reduceAdd, Nat.reduceSub, Array.replicate_succ, Array.replicate_zero, List.push_toArray, List.append_toArray, List.nil_append, List.cons_append]
  refine wpIn_wide.2 ?_
  go_wp2_with fail
  refine (fOpen_ok b A n c ps _ hx0 hn hc HCP).mono ?_
  rintro e w1 ⟨g, rfl, hw, hg, hb⟩
  have hb1 : Below w.heap.size w w1 := hb0.trans (hb.mono (by simp))
  clear hbk0 hc0 hc1 hb0 hx0 hb
  go_wp2_with fail
  refine (dRounds _ ⟨_, rfl⟩ _).mono ?_
  rintro e w' ⟨rfl, rfl⟩
  have e1 := ((Bk.new w1 79 #[.pointer (some ⟨g, 0, none⟩)]).alloc (.cells #[.slice none 0 0] 28)).alloc (.cells #[.pointer (some ⟨g, 0, none⟩)] 79)
  have e2 := (Bk.new (w1.alloc (.cells #[.pointer (some ⟨g, 0, none⟩)] 79)) 28 #[.slice none 0 0]).alloc (.cells #[.pointer (some ⟨g, 0, none⟩)] 79)
  have e3 := Bk.new ((w1.alloc (.cells #[.pointer (some ⟨g, 0, none⟩)] 79)).alloc (.cells #[.slice none 0 0] 28)) 79 #[.pointer (some ⟨g, 0, none⟩)]
  have hbW : Below w1.heap.size w1 (((w1.alloc (.cells #[.pointer (some ⟨g, 0, none⟩)] 79)).alloc (.cells #[.slice none 0 0] 28)).alloc (.cells #[.pointer (some ⟨g, 0, none⟩)] 79)) := (((Below.refl _ w1).alloc (Nat.le_refl _) _).alloc (by simp) _).alloc (by simp; omega) _
  simp only [World.size_alloc] at e1 e2 e3 ⊢
  obtain ⟨W0, hW0⟩ : ∃ W0, (((w1.alloc (.cells #[.pointer (some ⟨g, 0, none⟩)] 79)).alloc (.cells #[.slice none 0 0] 28)).alloc (.cells #[.pointer (some ⟨g, 0, none⟩)] 79)) = W0 := ⟨_, rfl⟩
  have hs0 : w1.heap.size + 3 = W0.heap.size := by rw [← hW0]; simp
  rw [hW0] at e1 e2 e3 hbW ⊢
  clear hW0
  have HS0 := Lib.hid hs0
  clear hs0
  go_wp2_with fail
  refine rounds_range (w1.heap.size + 1 + 1) g n c w1.heap.size A b ps rfl HP e3 (hw.below hbW) (by have := HS0.out; omega)
    (fun pre W => Bk W w1.heap.size 79 #[.pointer (some ⟨g, 0, none⟩)] ∧ OutP W0.heap.size (w1.heap.size + 1) (lateLs b ps (pre.map El.l)) W ∧ Below w1.heap.size w1 W ∧ W0.heap.size ≤ W.heap.size)
    (fun _ _ _ => False) ?hI ?hIx ⟨e1, ⟨none, 0, e2, Oi.nil_ _ _⟩, hbW, Nat.le_refl _⟩ ?a1 ?hassign ?hbody ?hdone ?hstop
  case hI => exact fun s A' C row hs hg' hr => ⟨Bk.from_ (β := Unit) _ _ _ _ () A' C row hs.1 hg' hr, outP_from _ _ _ (fun pre : List El => lateLs b ps (pre.map El.l)) s A' C row hs.2.1 hg' hr, below_from (β := Unit) (by have := HS0.out; omega) (Nat.le_refl _) () A' C row hs.2.2.1 hg' hr, Nat.le_trans hs.2.2.2 hg'.size⟩
  case hIx => exact fun _ _ _ _ _ h _ _ => h
  case hassign =>
    intro l x W K hK
    gi_wp2
    exact hK
  case hbody =>
    rintro l pre ⟨xa, xc, xl⟩ W ⟨h1, ⟨D, dc, h2, h4⟩, h3, hsW⟩ ⟨ho, hxL⟩ hpre
    dsimp only at ho hxL ⊢
    have c1 : W.cell? ⟨w1.heap.size, 0, none⟩ = some (.pointer (some ⟨g, 0, none⟩)) := h1.cell 0
    have hxm := allR_iff.1 hxL
    have hwW := (hw.below h3).more h3.size
    have HL := Lib.hid hw.rp.len
    have hlen : xl.length ≤ 10 := by have := HP.out.hi; omega
    have HALL : Hid (∀ i ∈ xl, i < n) := Lib.hid (by rw [← HL.out]; exact hxm.2.2)
    have HSB := Lib.hid (stepsL_bd HP.out (l := xl) hxm.2.2 hlen)
    obtain ⟨L, HLS⟩ : ∃ L, Hid (stepsL b ps xl = L) := ⟨_, Lib.hid rfl⟩
    obtain ⟨z, HZ⟩ : ∃ z, Hid (lateL ps L = z) := ⟨_, Lib.hid rfl⟩
    have HSN : Hid (lateLs b ps ((pre ++ [(⟨xa, xc, xl⟩ : El)]).map El.l) = lateLs b ps (pre.map El.l) ++ [z]) := Lib.hid (by rw [← HZ.out, ← HLS.out]; simp [lateLs])
    have hgN : (lateLs b ps (pre.map El.l)).length = pre.length := by simp [lateLs]
    have hm252 := allR_many HP.out
    obtain ⟨M, HM⟩ : ∃ M, Hid (lateLs b ps (pre.map El.l) = M) := ⟨_, Lib.hid rfl⟩
    obtain ⟨k, HK⟩ : ∃ k, Hid (xl.length = k) := ⟨_, Lib.hid rfl⟩
    obtain ⟨m, HML⟩ : ∃ m, Hid (M.length = m) := ⟨_, Lib.hid rfl⟩
    rw [HM.out] at h2 h4 hgN HSN
    rw [HML.out] at h2 h4 hgN
    have hm : m ≤ 252 := by omega
    rw [HK.out] at ho hlen ⊢
    rw [HLS.out] at HSB
    have hr := ho.ri
    clear hgN hpre hm252 hxm ho hxL
    gi_wp2_with fail
    refine ⟨trivial, ?_⟩
    refine (CallsIn.inRound l (callsIn_wide.2 (dSteps g n c A b ps _ hwW HP xa k xc xl hr (by omega) HALL))).mono ?_
    rintro e w2 ⟨rfl, hb2⟩
    rw [HLS.out]
    have hbO := Bk.new w2 85 (arr10 zeros)
    gi_wp2_with (refine store_steps_in rfl (.tmp 8) (.tmp 25) rfl w2.heap.size L zeros rfl rfl hbO ?_; intro w3 hk3 hb3 hs3)
    have hch3 : Chg (fun _ => False) W w3 := (((Chg.refl _ W).below hb2 (Nat.le_refl _)).alloc _).below hb3 hb2.size
    have k4 := (hch3.bk h1 (fun h => h)).drew
    have k6 := (hch3.bk h2 (fun h => h)).drew
    have o6 := (hch3.oi h4 (fun _ _ h => h)).drew
    have hb13 := h3.trans (hch3.toBelow (fun _ h => h.elim) h3.size)
    have hw3 : Wk w3.drew w3.drew.heap.size g A n c b ps := (hw.below hb13.drew).more hb13.size
    have c6 : w3.drew.cell? ⟨w1.heap.size + 1, 0, none⟩ = some (.slice D m dc) := k6.cell 0
    refine round_held (fun V => V.cell? ⟨w1.heap.size, 0, none⟩ = some (.pointer (some ⟨g, 0, none⟩)) ∧ Bk V w2.heap.size 85 (arr10 L)) hmix (by kernel_rfl) (fun _ _ h => h) ⟨k4.cell 0, hk3.drew⟩ (fun hS => ?_)
    refine wpAnyH_take (i := 1) (v := ?_) rfl (by kernel_rfl) (by kernel_rfl) (by kernel_rfl) (fun _ _ _ h => h) (Or.inl ⟨by rfl, ?_⟩) hS ?_
    rotate_left
    · intro w hSw
      (try dsimp only at hSw)
      go_simp
      (try with_reducible rfl)
    try simp (maxSteps := 10000000) only [Act.put, List.setIfInBounds_toArray, List.set_cons_zero, List.set_cons_succ, List.getElem_toArray, List.getElem_cons_zero, List.getElem_cons_succ]
    refine wpAnyH_take (i := 2) (v := .agg (arr10 L)) rfl (by kernel_rfl) (by kernel_rfl) (by kernel_rfl) (fun _ _ _ h => h) (Or.inl ⟨by rfl, fun V hSw => exec_load_row (.tmp 8) rfl w2.heap.size rfl hSw.2⟩) hS ?_
    try simp (maxSteps := 10000000) only [Act.put, List.setIfInBounds_toArray, List.set_cons_zero, List.set_cons_succ, List.getElem_toArray, List.getElem_cons_zero, List.getElem_cons_succ]
    have hk3 := hk3.drew
    refine wpAnyH_ready (rs := [0, 3]) (by kernel_rfl) (by simp) ?_
    refine AllReadyH.cons rfl (fun K hK => ?_) (AllReadyH.cons rfl (fun K hK => ?_) AllReadyH.nil)
    · go_simp
      refine hK.out _ _ hS (fun hS => ?_)
      clear hK K
      try simp (maxSteps := 10000000) only [Act.put, List.setIfInBounds_toArray, List.set_cons_zero, List.set_cons_succ, List.getElem_toArray, List.getElem_cons_zero, List.getElem_cons_succ]
      refine wpAnyH_ready (rs := [3]) (by kernel_rfl) (by simp) ?_
      refine AllReadyH.cons rfl (fun K hK => ?_) AllReadyH.nil
      go_simp
      refine (dLate g n c A b ps _ hw3 HP L (Lib.hid HSB.out.1) (Lib.hid HSB.out.2)).mono ?_
      rintro e w4 ⟨rfl, hb4⟩
      rw [HZ.out]
      have q6 := k6.below hb4 k6.lt
      have q4 := k4.below hb4 k4.lt
      have qr := hk3.below hb4 hk3.lt
      have qo := o6.below hb4
      have d6 : w4.cell? ⟨w1.heap.size + 1, 0, none⟩ = some (.slice D m dc) := q6.cell 0
      have d6a : (w4.alloc (.cells #[.int .i64 z] 2)).cell? ⟨w1.heap.size + 1, 0, none⟩ = some (.slice D m dc) := (q6.alloc _).cell 0
      refine hK.out _ _ ⟨q4.cell 0, qr⟩ (fun hS => ?_)
      clear hK K
      try simp (maxSteps := 10000000) only [Act.put, List.setIfInBounds_toArray, List.set_cons_zero, List.set_cons_succ, List.getElem_toArray, List.getElem_cons_zero, List.getElem_cons_succ]
      refine wpAnyH_ready (rs := [4]) (by kernel_rfl) (by simp) ?_
      refine AllReadyH.cons rfl (fun K hK => ?_) AllReadyH.nil
      go_simp
      refine hK.out _ _ ⟨(q4.alloc _).cell 0, qr.alloc _⟩ (fun hS => ?_)
      clear hK K
      try simp (maxSteps := 10000000) only [Act.put, List.setIfInBounds_toArray, List.set_cons_zero, List.set_cons_succ, List.getElem_toArray, List.getElem_cons_zero, List.getElem_cons_succ]
      refine wpAnyH_ready (rs := [5]) (by kernel_rfl) (by simp) ?_
      refine AllReadyH.cons rfl (fun K hK => ?_) AllReadyH.nil
      have hs4 : W0.heap.size ≤ w4.heap.size := by have h1 := hch3.size; have h2 := hb4.size; simp at h2; omega
      refine step_push rfl (.tmp 27) (.tmp 31) rfl W0.heap.size D m dc M rfl (qo.alloc _) ⟨w4.heap.size, 0, none⟩ 1 z rfl (cell_new1 w4 _ _) (by omega) (by rw [World.size_alloc]; omega) ?_
      intro g5 cap5 w5 ho5 hg5
      have p4 := (q4.alloc _).grown hg5 (qo.bk_ne q4 (by decide))
      have pr := (qr.alloc _).grown hg5 (qo.bk_ne qr (by decide))
      have p6 := (q6.alloc _).grown hg5 (qo.bk_ne q6 (by decide))
      have f6 := p6.frozen 0
      have c66 : w5.cell? ⟨w1.heap.size + 1, 0, none⟩ = some (.slice D m dc) := p6.cell 0
      refine hK.out _ _ ⟨p4.cell 0, pr⟩ (fun hS => ?_)
      clear hK K
      try simp (maxSteps := 10000000) only [Act.put, List.setIfInBounds_toArray, List.set_cons_zero, List.set_cons_succ, List.getElem_toArray, List.getElem_cons_zero, List.getElem_cons_succ]
      refine wpAnyH_ready (rs := [6]) (by kernel_rfl) (by simp) ?_
      refine AllReadyH.cons rfl (fun K hK => ?_) AllReadyH.nil
      go_simp
      have hp1 : w2.heap.size ≠ w1.heap.size + 1 := by have := HS0.out; have := hb2.size; omega
      refine hK.out _ _ ⟨(p4.far (p := ⟨w1.heap.size + 1, 0, none⟩) (by simp) _).cell 0, pr.far (p := ⟨w1.heap.size + 1, 0, none⟩) (by simpa using hp1) _⟩ (fun hS => ?_)
      clear hK K
      refine wpAnyH_done (by kernel_rfl) ?_ _
      have hch : Chg (fun k => k = w1.heap.size + 1 ∨ D.map Addr.block = some k) W (w5.setCell ⟨w1.heap.size + 1, 0, none⟩ (.slice (some ⟨g5, 0, none⟩) (m + 1) cap5)) :=
        Chg.setCell (p := ⟨w1.heap.size + 1, 0, none⟩) (((((hch3.mono (fun _ _ h => h.elim)).drew).below hb4 (by have := hch3.size; simp; omega)).alloc _).grown hg5 (fun r e => .inl (.inr e))) (.inl (.inl rfl)) _
      have hne5 : some (w1.heap.size + 1) ≠ (some ⟨g5, 0, none⟩ : Option Addr).map Addr.block := ho5.bk_ne p6 (by decide)
      have HML2 : Hid ((M ++ [z]).length = m + 1) := Lib.hid (by rw [List.length_append, HML.out]; rfl)
      refine ⟨hch.keeps _ (fun k e => ?_), hch.kr (fun k e => ?_) h3.size (fun k cs e hB hbk => ?_), hch.bk h1 ?_, ?_, h3.trans (hch.toBelow (fun k e => ?_) h3.size), Nat.le_trans hsW hch.size⟩
      · rcases e with rfl | e
        · exact h2.cells
        · exact h4.cells e
      · rcases e with rfl | e
        · omega
        · have := (h4.lt k e).1; have := HS0.out; omega
      · rcases e with rfl | e
        · have := HS0.out; omega
        · exact h4.bk_ne hbk (by decide) e.symm
      · rintro (e | e)
        · omega
        · exact h4.bk_ne h1 (by decide) e.symm
      · rw [HSN.out]
        exact ⟨some ⟨g5, 0, none⟩, cap5, by rw [HML2.out]; exact p6.set_ 0 _, by rw [HML2.out]; exact ho5.setOther (p := ⟨w1.heap.size + 1, 0, none⟩) hne5 _⟩
      · rcases e with rfl | e
        · omega
        · have := (h4.lt k e).1; have := HS0.out; omega
    · go_simp
      refine (dLate g n c A b ps _ hw3 HP L (Lib.hid HSB.out.1) (Lib.hid HSB.out.2)).mono ?_
      rintro e w4 ⟨rfl, hb4⟩
      rw [HZ.out]
      have q6 := k6.below hb4 k6.lt
      have q4 := k4.below hb4 k4.lt
      have qr := hk3.below hb4 hk3.lt
      have qo := o6.below hb4
      have d6 : w4.cell? ⟨w1.heap.size + 1, 0, none⟩ = some (.slice D m dc) := q6.cell 0
      have d6a : (w4.alloc (.cells #[.int .i64 z] 2)).cell? ⟨w1.heap.size + 1, 0, none⟩ = some (.slice D m dc) := (q6.alloc _).cell 0
      refine hK.out _ _ ⟨q4.cell 0, qr⟩ (fun hS => ?_)
      clear hK K
      try simp (maxSteps := 10000000) only [Act.put, List.setIfInBounds_toArray, List.set_cons_zero, List.set_cons_succ, List.getElem_toArray, List.getElem_cons_zero, List.getElem_cons_succ]
      refine wpAnyH_ready (rs := [0, 4]) (by kernel_rfl) (by simp) ?_
      refine AllReadyH.cons rfl (fun K hK => ?_) (AllReadyH.cons rfl (fun K hK => ?_) AllReadyH.nil)
      · go_simp
        refine hK.out _ _ hS (fun hS => ?_)
        clear hK K
        try simp (maxSteps := 10000000) only [Act.put, List.setIfInBounds_toArray, List.set_cons_zero, List.set_cons_succ, List.getElem_toArray, List.getElem_cons_zero, List.getElem_cons_succ]
        refine wpAnyH_ready (rs := [4]) (by kernel_rfl) (by simp) ?_
        refine AllReadyH.cons rfl (fun K hK => ?_) AllReadyH.nil
        go_simp
        refine hK.out _ _ ⟨(q4.alloc _).cell 0, qr.alloc _⟩ (fun hS => ?_)
        clear hK K
        try simp (maxSteps := 10000000) only [Act.put, List.setIfInBounds_toArray, List.set_cons_zero, List.set_cons_succ, List.getElem_toArray, List.getElem_cons_zero, List.getElem_cons_succ]
        refine wpAnyH_ready (rs := [5]) (by kernel_rfl) (by simp) ?_
        refine AllReadyH.cons rfl (fun K hK => ?_) AllReadyH.nil
        have hs4 : W0.heap.size ≤ w4.heap.size := by have h1 := hch3.size; have h2 := hb4.size; simp at h2; omega
        refine step_push rfl (.tmp 27) (.tmp 31) rfl W0.heap.size D m dc M rfl (qo.alloc _) ⟨w4.heap.size, 0, none⟩ 1 z rfl (cell_new1 w4 _ _) (by omega) (by rw [World.size_alloc]; omega) ?_
        intro g5 cap5 w5 ho5 hg5
        have p4 := (q4.alloc _).grown hg5 (qo.bk_ne q4 (by decide))
        have pr := (qr.alloc _).grown hg5 (qo.bk_ne qr (by decide))
        have p6 := (q6.alloc _).grown hg5 (qo.bk_ne q6 (by decide))
        have f6 := p6.frozen 0
        have c66 : w5.cell? ⟨w1.heap.size + 1, 0, none⟩ = some (.slice D m dc) := p6.cell 0
        refine hK.out _ _ ⟨p4.cell 0, pr⟩ (fun hS => ?_)
        clear hK K
        try simp (maxSteps := 10000000) only [Act.put, List.setIfInBounds_toArray, List.set_cons_zero, List.set_cons_succ, List.getElem_toArray, List.getElem_cons_zero, List.getElem_cons_succ]
        refine wpAnyH_ready (rs := [6]) (by kernel_rfl) (by simp) ?_
        refine AllReadyH.cons rfl (fun K hK => ?_) AllReadyH.nil
        go_simp
        have hp1 : w2.heap.size ≠ w1.heap.size + 1 := by have := HS0.out; have := hb2.size; omega
        refine hK.out _ _ ⟨(p4.far (p := ⟨w1.heap.size + 1, 0, none⟩) (by simp) _).cell 0, pr.far (p := ⟨w1.heap.size + 1, 0, none⟩) (by simpa using hp1) _⟩ (fun hS => ?_)
        clear hK K
        refine wpAnyH_done (by kernel_rfl) ?_ _
        have hch : Chg (fun k => k = w1.heap.size + 1 ∨ D.map Addr.block = some k) W (w5.setCell ⟨w1.heap.size + 1, 0, none⟩ (.slice (some ⟨g5, 0, none⟩) (m + 1) cap5)) :=
          Chg.setCell (p := ⟨w1.heap.size + 1, 0, none⟩) (((((hch3.mono (fun _ _ h => h.elim)).drew).below hb4 (by have := hch3.size; simp; omega)).alloc _).grown hg5 (fun r e => .inl (.inr e))) (.inl (.inl rfl)) _
        have hne5 : some (w1.heap.size + 1) ≠ (some ⟨g5, 0, none⟩ : Option Addr).map Addr.block := ho5.bk_ne p6 (by decide)
        have HML2 : Hid ((M ++ [z]).length = m + 1) := Lib.hid (by rw [List.length_append, HML.out]; rfl)
        refine ⟨hch.keeps _ (fun k e => ?_), hch.kr (fun k e => ?_) h3.size (fun k cs e hB hbk => ?_), hch.bk h1 ?_, ?_, h3.trans (hch.toBelow (fun k e => ?_) h3.size), Nat.le_trans hsW hch.size⟩
        · rcases e with rfl | e
          · exact h2.cells
          · exact h4.cells e
        · rcases e with rfl | e
          · omega
          · have := (h4.lt k e).1; have := HS0.out; omega
        · rcases e with rfl | e
          · have := HS0.out; omega
          · exact h4.bk_ne hbk (by decide) e.symm
        · rintro (e | e)
          · omega
          · exact h4.bk_ne h1 (by decide) e.symm
        · rw [HSN.out]
          exact ⟨some ⟨g5, 0, none⟩, cap5, by rw [HML2.out]; exact p6.set_ 0 _, by rw [HML2.out]; exact ho5.setOther (p := ⟨w1.heap.size + 1, 0, none⟩) hne5 _⟩
        · rcases e with rfl | e
          · omega
          · have := (h4.lt k e).1; have := HS0.out; omega
      · go_simp
        refine hK.out _ _ ⟨(q4.alloc _).cell 0, qr.alloc _⟩ (fun hS => ?_)
        clear hK K
        try simp (maxSteps := 10000000) only [Act.put, List.setIfInBounds_toArray, List.set_cons_zero, List.set_cons_succ, List.getElem_toArray, List.getElem_cons_zero, List.getElem_cons_succ]
        refine wpAnyH_ready (rs := [0]) (by kernel_rfl) (by simp) ?_
        refine AllReadyH.cons rfl (fun K hK => ?_) AllReadyH.nil
        go_simp
        refine hK.out _ _ hS (fun hS => ?_)
        clear hK K
        try simp (maxSteps := 10000000) only [Act.put, List.setIfInBounds_toArray, List.set_cons_zero, List.set_cons_succ, List.getElem_toArray, List.getElem_cons_zero, List.getElem_cons_succ]
        refine wpAnyH_ready (rs := [5]) (by kernel_rfl) (by simp) ?_
        refine AllReadyH.cons rfl (fun K hK => ?_) AllReadyH.nil
        have hs4 : W0.heap.size ≤ w4.heap.size := by have h1 := hch3.size; have h2 := hb4.size; simp at h2; omega
        refine step_push rfl (.tmp 27) (.tmp 31) rfl W0.heap.size D m dc M rfl (qo.alloc _) ⟨w4.heap.size, 0, none⟩ 1 z rfl (cell_new1 w4 _ _) (by omega) (by rw [World.size_alloc]; omega) ?_
        intro g5 cap5 w5 ho5 hg5
        have p4 := (q4.alloc _).grown hg5 (qo.bk_ne q4 (by decide))
        have pr := (qr.alloc _).grown hg5 (qo.bk_ne qr (by decide))
        have p6 := (q6.alloc _).grown hg5 (qo.bk_ne q6 (by decide))
        have f6 := p6.frozen 0
        have c66 : w5.cell? ⟨w1.heap.size + 1, 0, none⟩ = some (.slice D m dc) := p6.cell 0
        refine hK.out _ _ ⟨p4.cell 0, pr⟩ (fun hS => ?_)
        clear hK K
        try simp (maxSteps := 10000000) only [Act.put, List.setIfInBounds_toArray, List.set_cons_zero, List.set_cons_succ, List.getElem_toArray, List.getElem_cons_zero, List.getElem_cons_succ]
        refine wpAnyH_ready (rs := [6]) (by kernel_rfl) (by simp) ?_
        refine AllReadyH.cons rfl (fun K hK => ?_) AllReadyH.nil
        go_simp
        have hp1 : w2.heap.size ≠ w1.heap.size + 1 := by have := HS0.out; have := hb2.size; omega
        refine hK.out _ _ ⟨(p4.far (p := ⟨w1.heap.size + 1, 0, none⟩) (by simp) _).cell 0, pr.far (p := ⟨w1.heap.size + 1, 0, none⟩) (by simpa using hp1) _⟩ (fun hS => ?_)
        clear hK K
        refine wpAnyH_done (by kernel_rfl) ?_ _
        have hch : Chg (fun k => k = w1.heap.size + 1 ∨ D.map Addr.block = some k) W (w5.setCell ⟨w1.heap.size + 1, 0, none⟩ (.slice (some ⟨g5, 0, none⟩) (m + 1) cap5)) :=
          Chg.setCell (p := ⟨w1.heap.size + 1, 0, none⟩) (((((hch3.mono (fun _ _ h => h.elim)).drew).below hb4 (by have := hch3.size; simp; omega)).alloc _).grown hg5 (fun r e => .inl (.inr e))) (.inl (.inl rfl)) _
        have hne5 : some (w1.heap.size + 1) ≠ (some ⟨g5, 0, none⟩ : Option Addr).map Addr.block := ho5.bk_ne p6 (by decide)
        have HML2 : Hid ((M ++ [z]).length = m + 1) := Lib.hid (by rw [List.length_append, HML.out]; rfl)
        refine ⟨hch.keeps _ (fun k e => ?_), hch.kr (fun k e => ?_) h3.size (fun k cs e hB hbk => ?_), hch.bk h1 ?_, ?_, h3.trans (hch.toBelow (fun k e => ?_) h3.size), Nat.le_trans hsW hch.size⟩
        · rcases e with rfl | e
          · exact h2.cells
          · exact h4.cells e
        · rcases e with rfl | e
          · omega
          · have := (h4.lt k e).1; have := HS0.out; omega
        · rcases e with rfl | e
          · have := HS0.out; omega
          · exact h4.bk_ne hbk (by decide) e.symm
        · rintro (e | e)
          · omega
          · exact h4.bk_ne h1 (by decide) e.symm
        · rw [HSN.out]
          exact ⟨some ⟨g5, 0, none⟩, cap5, by rw [HML2.out]; exact p6.set_ 0 _, by rw [HML2.out]; exact ho5.setOther (p := ⟨w1.heap.size + 1, 0, none⟩) hne5 _⟩
        · rcases e with rfl | e
          · omega
          · have := (h4.lt k e).1; have := HS0.out; omega
  case hdone =>
    rintro Dd xs W hD hxs ⟨_, ⟨D, dc, h2, h4⟩, h3, _⟩ hDW
    have HXS : Hid (lateLs b ps (xs.map El.l) = lateLs b ps (allR b ps)) := Lib.hid (by rw [hxs])
    have hlen : 0 < (lateLs b ps (allR b ps)).length ∧ (lateLs b ps (allR b ps)).length ≤ 252 := by
      have h1 := allR_some (b := b) (ps := ps)
      have h2 := allR_many HP.out
      simp [lateLs]
      omega
    rw [HXS.out] at h2 h4
    obtain ⟨M, HM⟩ : ∃ M, Hid (lateLs b ps (allR b ps) = M) := ⟨_, Lib.hid rfl⟩
    rw [HM.out] at h2 h4 hlen
    obtain ⟨m, HML⟩ : ∃ m, Hid (M.length = m) := ⟨_, Lib.hid rfl⟩
    rw [HML.out] at h2 h4 hlen
    have c6 : W.cell? ⟨w1.heap.size + 1, 0, none⟩ = some (.slice D m dc) := h2.cell 0
    have hb2 : Below w.heap.size w W := hb1.trans (h3.mono hb1.size)
    have hDb : w.heap.size ≤ Dd := by have := HS0.out; have := hb1.size; omega
    have HD := Lib.hid hDW
    clear hDW hxs
    go_wp2_with fail
    refine (lMin D m dc _ M _ h4.ri (by omega) hlen.1).mono ?_
    rintro e w' ⟨rfl, rfl⟩
    go_wp2
    refine ⟨by simp, .inl ⟨_, _, rfl, run_takeDeferred HD.out, ?_⟩⟩
    refine ⟨_, results_tmp2 rfl _ _ _, by rw [HM.out]; rfl, ?_⟩
    exact hb2.grown (grownBy_putObj' W Dd (.deferred none)) hb2.size (fun k e => by cases e; exact hDb)
  case hstop => exact fun _ _ _ _ _ _ h _ => h.elim
end Go.Proofs.Ytaekjnjignlmoaa
