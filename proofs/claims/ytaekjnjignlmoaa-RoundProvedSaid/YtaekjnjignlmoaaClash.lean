/-
  The program: 'clash', 'clashing'.
  The program: 'clashing'.
  The program: 'CheckRound'.
  The program: 'CheckClash', 'Clash'.
-/
import Derived.Test.YtaekjnjignlmoaaJ
import Derived.Test.YtaekjnjignlmoaaPlain
import Derived.WalkMore
import Derived.Laws.CopyOwn
namespace Go.Proofs.Ytaekjnjignlmoaa
open Go.RowKit Go.Shelf
attribute [local go_sem] Oper.semAt_some

/-- A stop of the list is late in a round. -/
def lateIn (b : Int) (ps : List (Int × Int)) (l r : List Nat) : Bool := l.any fun i => decide (too ps i < nth (stepsL b ps r) i)
def clashB (b : Int) (ps : List (Int × Int)) (l : List Nat) : Bool := (allR b ps).all (lateIn b ps l)
theorem results_bool {fn : Func} {p : Tmp} (h : fn.results = #[.cell p 4]) (tmps : Array Value) {w : World} {k : Nat} {x : Bool} (hp : tmps.getD p undef = .pointer (some ⟨k, 0, none⟩)) (hb : Bk w k 4 #[.bool x]) :
    (results fn tmps).run Try.prog w = .ok (.bool x) w := by
  have hp' : tmps[p]?.getD undef = .pointer (some ⟨k, 0, none⟩) := by simpa using hp
  have hc : w.cell? ⟨k, 0, none⟩ = some (.bool x) := hb.cell 0
  simp [results, h, hp', asAddr, loadVar, hc, go_sem]

set_option maxRecDepth 100000 in
set_option maxHeartbeats 4000000 in
theorem dClash (g n c : Nat) (A : Option Addr) (b : Int) (ps : List (Int × Int)) (w : World) (hw : Wk w w.heap.size g A n c b ps) (HP : Hid (Pier b ps)) (B : Option Addr) (m d : Nat) (l : List Nat) (hl : Ri w w.heap.size B m (ofN l)) (hm : m ≤ 1048576) (HA : Hid (∀ i ∈ l, i < n)) :
    Calls Try.prog 93 #[.pointer (some ⟨g, 0, none⟩), .slice B m d] w (RetB w (clashB b ps l)) := by
  have HLN := Lib.hid hw.rp.len
  have HLM : Hid (l.length = m) := Lib.hid (by rw [← ofN_length]; exact hl.len)
  have hn10 : n ≤ 10 := by have := HP.out.hi; have := HLN.out; omega
  have hmf : ∀ (fn : Fn) (first cap : Array Value) (w : World), (Instr.makeFunc fn first cap).run Try.prog w = .ok (.func fn first cap) w := fun _ _ _ _ => rfl
  have hmix : Try.prog.follows .mixedOrders = true := by kernel_rfl
  refine (callsIn_wide (n := 5)).1 ?_
  refine callsIn_of_wp_marks Try.func93 rfl trivial ?_ rfl
  simp only [Try.ntmps93, List.size_toArray, List.length_cons, List.length_nil, Nat.reduceAdd, Nat.reduceSub, Array.replicate_succ, Array.replicate_zero, List.push_toArray, List.append_toArray, List.nil_append, List.cons_append]
  refine wpIn_wide.2 ?_
  go_wp2_with fail
  go_step3
  go_wp2_with fail
  go_step3
  go_wp2_with fail
  refine (dRounds _ ⟨_, rfl⟩ _).mono ?_
  rintro e w' ⟨rfl, rfl⟩
  have e1 := (((Bk.new w 79 #[.pointer (some ⟨g, 0, none⟩)]).alloc (.cells #[.slice B m d] 25)).alloc (.cells #[.bool false] 4)).alloc (.cells #[.pointer (some ⟨g, 0, none⟩)] 79)
  have e2 := ((Bk.new (w.alloc (.cells #[.pointer (some ⟨g, 0, none⟩)] 79)) 25 #[.slice B m d]).alloc (.cells #[.bool false] 4)).alloc (.cells #[.pointer (some ⟨g, 0, none⟩)] 79)
  have e3 := (Bk.new ((w.alloc (.cells #[.pointer (some ⟨g, 0, none⟩)] 79)).alloc (.cells #[.slice B m d] 25)) 4 #[.bool false]).alloc (.cells #[.pointer (some ⟨g, 0, none⟩)] 79)
  have e4 := Bk.new (((w.alloc (.cells #[.pointer (some ⟨g, 0, none⟩)] 79)).alloc (.cells #[.slice B m d] 25)).alloc (.cells #[.bool false] 4)) 79 #[.pointer (some ⟨g, 0, none⟩)]
  have hbW : Below w.heap.size w ((((w.alloc (.cells #[.pointer (some ⟨g, 0, none⟩)] 79)).alloc (.cells #[.slice B m d] 25)).alloc (.cells #[.bool false] 4)).alloc (.cells #[.pointer (some ⟨g, 0, none⟩)] 79)) := ((((Below.refl _ w).alloc (Nat.le_refl _) _).alloc (by simp) _).alloc (by simp; omega) _).alloc (by simp; omega) _
  simp only [World.size_alloc] at e1 e2 e3 e4 ⊢
  obtain ⟨W0, hW0⟩ : ∃ W0, ((((w.alloc (.cells #[.pointer (some ⟨g, 0, none⟩)] 79)).alloc (.cells #[.slice B m d] 25)).alloc (.cells #[.bool false] 4)).alloc (.cells #[.pointer (some ⟨g, 0, none⟩)] 79)) = W0 := ⟨_, rfl⟩
  have hs0 : w.heap.size + 4 = W0.heap.size := by rw [← hW0]; simp
  rw [hW0] at e1 e2 e3 e4 hbW ⊢
  clear hW0
  have HS0 := Lib.hid hs0
  clear hs0
  go_wp2_with fail
  refine rounds_range (w.heap.size + 1 + 1 + 1) g n c w.heap.size A b ps rfl HP e4 (hw.below hbW) (by have := HS0.out; omega)
    (fun pre W => (Bk W w.heap.size 79 #[.pointer (some ⟨g, 0, none⟩)] ∧ Bk W (w.heap.size + 1) 25 #[.slice B m d] ∧ Bk W (w.heap.size + 1 + 1) 4 #[.bool false]) ∧ Hid ((pre.map El.l).all (lateIn b ps l) = true) ∧ Below w.heap.size w W ∧ W0.heap.size ≤ W.heap.size)
    (fun c0 _ W => c0 = .ret ∧ Hid (clashB b ps l = false) ∧ Bk W (w.heap.size + 1 + 1) 4 #[.bool false] ∧ Below w.heap.size w W) ?hI ?hIx ⟨⟨e1, e2, e3⟩, Lib.hid rfl, hbW, Nat.le_refl _⟩ ?a1 ?hassign ?hbody ?hdone ?hstop
  case hI => exact fun s' A' C row hs hg' hr => ⟨⟨Bk.from_ (β := Unit) _ _ _ _ () A' C row hs.1.1 hg' hr, Bk.from_ (β := Unit) _ _ _ _ () A' C row hs.1.2.1 hg' hr, Bk.from_ (β := Unit) _ _ _ _ () A' C row hs.1.2.2 hg' hr⟩, hs.2.1, below_from (β := Unit) (by have := HS0.out; omega) (Nat.le_refl _) () A' C row hs.2.2.1 hg' hr, Nat.le_trans hs.2.2.2 hg'.size⟩
  case hIx => exact fun c0 s' A' C row hs hg' hr => ⟨hs.1, hs.2.1, Bk.from_ (β := Unit) _ _ _ _ () A' C row hs.2.2.1 hg' hr, below_from (β := Unit) (by have := HS0.out; omega) (Nat.le_refl _) () A' C row hs.2.2.2 hg' hr⟩
  case hassign =>
    intro l x W K hK
    gi_wp2
    exact hK
  case hbody =>
    rintro lp pre ⟨xa, xc, xl⟩ W ⟨⟨h0, h1, h2⟩, HPRE, h3, hsW⟩ ⟨ho, hxL⟩ hpre
    dsimp only at ho hxL ⊢
    have c1 : W.cell? ⟨w.heap.size, 0, none⟩ = some (.pointer (some ⟨g, 0, none⟩)) := h0.cell 0
    have hxm := allR_iff.1 hxL
    have hwW := (hw.below h3).more h3.size
    have hlen : xl.length ≤ 10 := by have := HP.out.hi; omega
    have HALL : Hid (∀ i ∈ xl, i < n) := Lib.hid (by rw [← HLN.out]; exact hxm.2.2)
    have HSB := Lib.hid (stepsL_bd HP.out (l := xl) hxm.2.2 hlen)
    have HXL := Lib.hid hxL
    obtain ⟨L, HLS⟩ : ∃ L, Hid (stepsL b ps xl = L) := ⟨_, Lib.hid rfl⟩
    have HLI : Hid (∀ k : Nat, (l.take k).any (fun i => decide (too ps i < nth L i)) = (l.take k).any (fun i => decide (too ps i < nth (stepsL b ps xl) i))) := Lib.hid (fun k => by rw [HLS.out])
    obtain ⟨k, HK⟩ : ∃ k, Hid (xl.length = k) := ⟨_, Lib.hid rfl⟩
    rw [HK.out] at ho hlen ⊢
    rw [HLS.out] at HSB
    have hr := ho.ri
    clear hpre hxm ho hxL
    gi_wp2_with fail
    refine ⟨trivial, ?_⟩
    refine (CallsIn.inRound lp (callsIn_wide.2 (dSteps g n c A b ps _ hwW HP xa k xc xl hr (by omega) HALL))).mono ?_
    rintro e w3 ⟨rfl, hb2⟩
    rw [HLS.out]
    have hbO := Bk.new w3 85 (arr10 zeros)
    have c2a := h1.below hb2 h1.lt
    gi_wp2_with (refine store_steps_in rfl (.tmp 6) (.tmp 17) rfl w3.heap.size L zeros rfl rfl hbO ?_; intro w4 hk4 hb4 hs4; have c2b : w4.cell? ⟨w.heap.size + 1, 0, none⟩ = some (.slice B m d) := ((c2a.alloc _).below hb4 c2a.lt).cell 0)
    have hch4 : Chg (fun _ => False) W w4 := (((Chg.refl _ W).below hb2 (Nat.le_refl _)).alloc _).below hb4 hb2.size
    gi_loopw [21] (fun i wr => ∃ j : Nat, j ≤ m ∧ i = .int .i64 j ∧ Hid ((l.take j).any (fun i => decide (too ps i < nth L i)) = false) ∧ Chg (fun _ => False) W wr ∧ Bk wr w3.heap.size 85 (arr10 L)) (fun i _ => m - (intOf i).toNat)
    case atStart => exact ⟨0, Nat.zero_le _, rfl, Lib.hid rfl, hch4, hk4⟩
    case round =>
      clear hk4 hch4 c2b
      obtain ⟨j, hj, rfl, HNO, hch, hkr⟩ := hrel
      have hbr : Below w.heap.size w wr := h3.trans (hch.toBelow (fun _ h => h.elim) h3.size)
      by_cases hlt : j < m
      · obtain ⟨ad, x, rfl, _, hcx, hxk, _⟩ := (hl.below hbr).at_ hlt
        obtain ⟨i, hi1, rfl⟩ := ofN_at hxk.out
        have hin : i < n := HA.out i (List.mem_of_getElem? hi1)
        have hi10 : i < 10 := by omega
        have hi10i : (i : Int) < 10 := by omega
        obtain ⟨ad2, hA2, _, s1, s2⟩ := (hw.rp.below hbr).at2 hin
        subst hA2
        have kk1 : wr.cell? ⟨g, 1, none⟩ = some (.slice (some ad2) n c) := (hbr.cell hw.lt).trans hw.c1
        have kk0 : wr.cell? ⟨w.heap.size, 0, none⟩ = some (.pointer (some ⟨g, 0, none⟩)) := (hch.bk h0 (fun h => h)).cell 0
        have kko : wr.cell? ⟨w3.heap.size, i, none⟩ = some (.int .i64 (nth L i)) := (hkr.cell i).trans (arr10_at L hi10)
        obtain ⟨y, HY⟩ : ∃ y, Hid (nth L i = y) := ⟨_, Lib.hid rfl⟩
        obtain ⟨z, HZ⟩ : ∃ z, Hid (too ps i = z) := ⟨_, Lib.hid rfl⟩
        have HST : Hid ((l.take (j + 1)).any (fun i => decide (too ps i < nth L i)) = decide (z < y)) := Lib.hid (by rw [take_snoc hi1, List.any_append, HNO.out]; simp [HY.out, HZ.out])
        have HI := Lib.hid hi1
        rw [HY.out] at kko
        rw [HZ.out] at s2
        clear hi1 hxk
        gi_wp2
        refine round_held (fun V => V.cell? ⟨w3.heap.size, i, none⟩ = some (.int .i64 y) ∧ V.cell? ⟨w.heap.size, 0, none⟩ = some (.pointer (some ⟨g, 0, none⟩)) ∧ V.cell? ⟨g, 1, none⟩ = some (.slice (some ad2) n c) ∧ V.cell? ⟨(ad2.add (i * 2)).block, (ad2.add (i * 2)).off + 1, none⟩ = some (.int .i64 z)) hmix (by kernel_rfl) (fun _ _ h => h) ⟨kko, kk0, kk1, s2⟩ (fun hS => ?_)
        refine wpAnyH_take (i := 0) (v := ?_) rfl (by kernel_rfl) (by kernel_rfl) (by kernel_rfl) (fun _ _ _ h => h) (Or.inl ⟨by rfl, ?_⟩) hS ?_
        rotate_left
        · intro w hSw
          (try dsimp only at hSw)
          go_simp
          (try with_reducible rfl)
        try simp (maxSteps := 10000000) only [Act.put, List.setIfInBounds_toArray, List.set_cons_zero, List.set_cons_succ, List.getElem_toArray, List.getElem_cons_zero]
        refine wpAnyH_take (i := 1) (v := ?_) rfl (by kernel_rfl) (by kernel_rfl) (by kernel_rfl) (fun _ _ _ h => h) (Or.inl ⟨by rfl, ?_⟩) hS ?_
        rotate_left
        · intro w hSw
          (try dsimp only at hSw)
          go_simp
          (try with_reducible rfl)
        try simp (maxSteps := 10000000) only [Act.put, List.setIfInBounds_toArray, List.set_cons_zero, List.set_cons_succ, List.getElem_toArray, List.getElem_cons_zero, List.getElem_cons_succ]
        refine wpAnyH_take (i := 2) (v := ?_) rfl (by kernel_rfl) (by kernel_rfl) (by kernel_rfl) (fun _ _ _ h => h) (Or.inl ⟨by rfl, ?_⟩) hS ?_
        rotate_left
        · intro w hSw
          (try dsimp only at hSw)
          go_simp
          (try with_reducible rfl)
        try simp (maxSteps := 10000000) only [Act.put, List.setIfInBounds_toArray, List.set_cons_zero, List.set_cons_succ, List.getElem_toArray, List.getElem_cons_zero, List.getElem_cons_succ]
        refine wpAnyH_take (i := 3) (v := ?_) rfl (by kernel_rfl) (by kernel_rfl) (by kernel_rfl) (fun _ _ _ h => h) (Or.inl ⟨by rfl, ?_⟩) hS ?_
        rotate_left
        · intro w hSw
          (try dsimp only at hSw)
          go_simp
          (try with_reducible rfl)
        try simp (maxSteps := 10000000) only [Act.put, List.setIfInBounds_toArray, List.set_cons_zero, List.set_cons_succ, List.getElem_toArray, List.getElem_cons_zero, List.getElem_cons_succ]
        refine wpAnyH_take (i := 4) (v := ?_) rfl (by kernel_rfl) (by kernel_rfl) (by kernel_rfl) (fun _ _ _ h => h) (Or.inl ⟨by rfl, ?_⟩) hS ?_
        rotate_left
        · intro w hSw
          (try dsimp only at hSw)
          go_simp
          (try with_reducible rfl)
        try simp (maxSteps := 10000000) only [Act.put, List.setIfInBounds_toArray, List.set_cons_zero, List.set_cons_succ, List.getElem_toArray, List.getElem_cons_zero, List.getElem_cons_succ]
        refine wpAnyH_take (i := 5) (v := ?_) rfl (by kernel_rfl) (by kernel_rfl) (by kernel_rfl) (fun _ _ _ h => h) (Or.inl ⟨by rfl, ?_⟩) hS ?_
        rotate_left
        · intro w hSw
          (try dsimp only at hSw)
          go_simp
          (try with_reducible rfl)
        try simp (maxSteps := 10000000) only [Act.put, List.setIfInBounds_toArray, List.set_cons_zero, List.set_cons_succ, List.getElem_toArray, List.getElem_cons_zero, List.getElem_cons_succ]
        refine wpAnyH_take (i := 6) (v := ?_) rfl (by kernel_rfl) (by kernel_rfl) (by kernel_rfl) (fun _ _ _ h => h) (Or.inl ⟨by rfl, ?_⟩) hS ?_
        rotate_left
        · intro w hSw
          (try dsimp only at hSw)
          go_simp
          (try with_reducible rfl)
        try simp (maxSteps := 10000000) only [Act.put, List.setIfInBounds_toArray, List.set_cons_zero, List.set_cons_succ, List.getElem_toArray, List.getElem_cons_zero, List.getElem_cons_succ]
        refine wpAnyH_take (i := 7) (v := ?_) rfl (by kernel_rfl) (by kernel_rfl) (by kernel_rfl) (fun _ _ _ h => h) (Or.inl ⟨by rfl, ?_⟩) hS ?_
        rotate_left
        · intro w hSw
          (try dsimp only at hSw)
          go_simp
          (try with_reducible rfl)
        try simp (maxSteps := 10000000) only [Act.put, List.setIfInBounds_toArray, List.set_cons_zero, List.set_cons_succ, List.getElem_toArray, List.getElem_cons_zero, List.getElem_cons_succ]
        refine wpAnyH_take (i := 8) (v := ?_) rfl (by kernel_rfl) (by kernel_rfl) (by kernel_rfl) (fun _ _ _ h => h) (Or.inl ⟨by rfl, ?_⟩) hS ?_
        rotate_left
        · intro w hSw
          (try dsimp only at hSw)
          go_simp
          (try with_reducible rfl)
        try simp (maxSteps := 10000000) only [Act.put, List.setIfInBounds_toArray, List.set_cons_zero, List.set_cons_succ, List.getElem_toArray, List.getElem_cons_zero, List.getElem_cons_succ]
        refine wpAnyH_take (i := 9) (v := ?_) rfl (by kernel_rfl) (by kernel_rfl) (by kernel_rfl) (fun _ _ _ h => h) (Or.inl ⟨by rfl, ?_⟩) hS ?_
        rotate_left
        · intro w hSw
          (try dsimp only at hSw)
          go_simp
          (try with_reducible rfl)
        try simp (maxSteps := 10000000) only [Act.put, List.setIfInBounds_toArray, List.set_cons_zero, List.set_cons_succ, List.getElem_toArray, List.getElem_cons_zero, List.getElem_cons_succ]
        refine wpAnyH_take (i := 10) (v := ?_) rfl (by kernel_rfl) (by kernel_rfl) (by kernel_rfl) (fun _ _ _ h => h) (Or.inl ⟨by rfl, ?_⟩) hS ?_
        rotate_left
        · intro w hSw
          (try dsimp only at hSw)
          go_simp
          (try with_reducible rfl)
        try simp (maxSteps := 10000000) only [Act.put, List.setIfInBounds_toArray, List.set_cons_zero, List.set_cons_succ, List.getElem_toArray, List.getElem_cons_zero, List.getElem_cons_succ]
        refine wpAnyH_take (i := 11) (v := ?_) rfl (by kernel_rfl) (by kernel_rfl) (by kernel_rfl) (fun _ _ _ h => h) (Or.inl ⟨by rfl, ?_⟩) hS ?_
        rotate_left
        · intro w hSw
          (try dsimp only at hSw)
          go_simp
          (try with_reducible rfl)
        try simp (maxSteps := 10000000) only [Act.put, List.setIfInBounds_toArray, List.set_cons_zero, List.set_cons_succ, List.getElem_toArray, List.getElem_cons_zero, List.getElem_cons_succ]
        refine wpAnyH_take (i := 12) (v := ?_) rfl (by kernel_rfl) (by kernel_rfl) (by kernel_rfl) (fun _ _ _ h => h) (Or.inl ⟨by rfl, ?_⟩) hS ?_
        rotate_left
        · intro w hSw
          (try dsimp only at hSw)
          go_simp
          (try with_reducible rfl)
        try simp (maxSteps := 10000000) only [Act.put, List.setIfInBounds_toArray, List.set_cons_zero, List.set_cons_succ, List.getElem_toArray, List.getElem_cons_zero, List.getElem_cons_succ]
        refine wpAnyH_done (by kernel_rfl) ?_ _
        clear hS
        by_cases hzy : z < y
        · have HLT : Hid (lateIn b ps l xl = true) := Lib.hid (by
            unfold lateIn
            refine List.any_eq_true.2 ⟨i, List.mem_of_getElem? HI.out, ?_⟩
            rw [HLS.out, HY.out, HZ.out]
            exact decide_eq_true hzy)
          have HPR2 : Hid (((pre ++ [(⟨xa, xc, xl⟩ : El)]).map El.l).all (lateIn b ps l) = true) := Lib.hid (by rw [List.map_append, List.all_append, HPRE.out]; simp [HLT.out])
          gi_wp2
          have hchd := hch.drew
          exact ⟨hchd.keeps _ (fun _ h => h.elim), hchd.kr (fun _ h => h.elim) h3.size (fun _ _ h => h.elim), ⟨hchd.bk h0 (fun h => h), hchd.bk h1 (fun h => h), hchd.bk h2 (fun h => h)⟩, HPR2, hbr.drew, Nat.le_trans hsW hchd.size⟩
        · have HST2 : Hid ((l.take (j + 1)).any (fun i => decide (too ps i < nth L i)) = false) := Lib.hid (by rw [HST.out]; exact decide_eq_false hzy)
          gi_wp2
          go_roundw
          case rel => exact ⟨j + 1, by omega, by go_num, HST2, hch.drew, hkr.drew⟩
          case measure => simp [intOf]; omega
      · obtain rfl : j = m := by omega
        have HCF : Hid (clashB b ps l = false) := Lib.hid (by
          unfold clashB
          rw [List.all_eq_false]
          refine ⟨xl, HXL.out, ?_⟩
          have h := HNO.out
          rw [List.take_of_length_le (by rw [HLM.out]; omega)] at h
          unfold lateIn
          rw [HLS.out, h]
          simp)
        have y2 := hch.bk h2 (fun h => h)
        have yc : wr.cell? ⟨w.heap.size + 1 + 1, 0, none⟩ = some (.bool false) := y2.cell 0
        have yf := y2.frozen 0
        gi_wp2
        have hch5 : Chg (fun k => k = w.heap.size + 1 + 1) W (wr.setCell ⟨w.heap.size + 1 + 1, 0, none⟩ (.bool false)) := Chg.setCell (X := fun k => k = w.heap.size + 1 + 1) (p := ⟨w.heap.size + 1 + 1, 0, none⟩) (hch.mono (fun _ _ h => h.elim)) (.inl rfl) _
        exact ⟨hch5.keeps _ (fun k e => by subst e; exact h2.cells), rfl, HCF, y2.set_ 0 _, h3.trans (hch5.toBelow (fun k e => by omega) h3.size)⟩
  case hdone =>
    rintro Dd xs W hD hxs ⟨⟨_, _, h2⟩, HALLX, h3, _⟩ hDW
    have HCT : Hid (clashB b ps l = true) := Lib.hid (by unfold clashB; rw [← hxs]; exact HALLX.out)
    have yc : W.cell? ⟨w.heap.size + 1 + 1, 0, none⟩ = some (.bool false) := h2.cell 0
    have yf := h2.frozen 0
    have hDn : Dd ≠ w.heap.size + 1 + 1 := by have := HS0.out; omega
    have hDb : w.heap.size ≤ Dd := by have := HS0.out; omega
    have HD := Lib.hid hDW
    clear hDW hxs
    go_wp2
    rw [Exit.noGoto_ret]
    have hD3 : (W.setCell ⟨w.heap.size + 1 + 1, 0, none⟩ (.bool true)).heap[Dd]? = some (.deferred (some [])) := by
      rw [Below.heap_setCell _ _ _ _ hDn]
      exact HD.out
    have r3 := h2.set_ 0 (.bool true)
    refine ⟨by simp, .inl ⟨_, _, rfl, run_takeDeferred hD3, ?_⟩⟩
    refine ⟨_, results_bool rfl _ rfl (Bk.grown r3 (grownBy_putObj' _ Dd (.deferred none)) (fun e => hDn (Option.some.inj e).symm)), by rw [HCT.out], ?_⟩
    exact (h3.setCell (p := ⟨w.heap.size + 1 + 1, 0, none⟩) (by simp; omega) _).grown (grownBy_putObj' _ Dd (.deferred none)) (by have := h3.size; simp; omega) (fun k e => by cases e; exact hDb)
  case hstop =>
    rintro Dd c0 pre W hD _ ⟨rfl, HCF, h2, h3⟩ hDW
    have hDb : w.heap.size ≤ Dd := by have := HS0.out; omega
    have hDn : Dd ≠ w.heap.size + 1 + 1 := by have := HS0.out; omega
    have HD := Lib.hid hDW
    clear hDW
    go_wp2
    rw [Exit.noGoto_ret]
    refine ⟨by simp, .inl ⟨_, _, rfl, run_takeDeferred HD.out, ?_⟩⟩
    refine ⟨_, results_bool rfl _ rfl (Bk.grown h2 (grownBy_putObj' _ Dd (.deferred none)) (fun e => hDn (Option.some.inj e).symm)), by rw [HCF.out], ?_⟩
    exact h3.grown (grownBy_putObj' _ Dd (.deferred none)) h3.size (fun k e => by cases e; exact hDb)
end Go.Proofs.Ytaekjnjignlmoaa

namespace Go.Proofs.Ytaekjnjignlmoaa
open Go.RowKit Go.Shelf

theorem wp_push_full_num {w : World} {o : Oper} {a : Act} {K : Act → World → Prop} {Q : Exit → Act → World → Prop} (s x : Operand)
    (ho : o.op = .call { callee := .builtin .append, args := #[s, x], argTypes := #[25, 25] })
    (base : Nat) (A : Option Addr) (n c : Nat) (xs : List Int) (hs : a.eval s = .slice A n n) (hown : Oj w base A n c xs)
    (ad : Addr) (c' : Nat) (z : Int) (hx : a.eval x = .slice (some ad) 1 c') (hz : w.cell? ad = some (.int .i64 z)) (hlen : n < 1099511627776)
    (h : ∀ g cap w', Oj w' w.heap.size (some ⟨g, 0, none⟩) (n + 1) cap (xs ++ [z]) → w.grownBy w' none → K (a.put o.dst (.slice (some ⟨g, 0, none⟩) (n + 1) cap)) w') : Oper.wp Try.prog o a w K Q := by
  obtain ⟨i0, hi, hz0, hz1, hz2⟩ := info_parts info_num
  have hri := hown.ri
  have hlx := hown.len
  have key : ∃ v' w', (Builtin.append_ #[25, 25] o.type #[.slice A n n, .slice (some ad) 1 c']).run Try.prog w = .ok v' w' ∧ w'.ownsRow w.heap.size 3 1 v' (n + 1) (ints xs ++ [.int .i64 z]) ∧ w.grownBy w' none := by
    have hnews : ∀ j u, ([Value.int .i64 z] : List Value)[j]? = some u → w.cell? (ad.add j) = some u := fun j u hj => by
      match j, hj with
      | 0, hj => simp at hj; subst hj; exact hz
    cases A with
    | some b =>
      obtain ⟨v', w', hrun, r1, r2⟩ := run_append_arg_grows (P := Try.prog) w _ o.type _ i0 _ 1 8 under_nums hi hz0 hz1 hz2 rfl (by decide) b n n (ints xs) (by rw [ints_length, hlx]; omega) (fun j u hj => by
        have hjn : j < n := by
          have := (List.getElem?_eq_some_iff.1 hj).1
          rw [ints_length, hlx] at this
          exact this
        obtain ⟨ad', y, hA, _, hc, hy, _⟩ := hri.at_ hjn
        cases hA
        rw [ints, List.getElem?_map, hy.out] at hj
        cases hj
        exact hc) ad 1 c' [.int .i64 z] rfl hnews (by omega) (by unfold maxLen; omega) (by omega)
      exact ⟨v', w', hrun, r1, r2⟩
    | none =>
      have h0 : n = 0 := by
        rcases hown.2 with ⟨_, h'⟩ | ⟨g', cap', cur, h', _⟩
        · simp_all
        · cases h'
      subst h0
      obtain rfl : xs = [] := List.eq_nil_of_length_eq_zero hlx
      obtain ⟨v', w', hrun, r1, r2, _⟩ := run_append_own (P := Try.prog) w w.heap.size _ o.type _ i0 _ 1 8 under_nums hi hz0 hz1 hz2 rfl (by decide) (.slice none 0 0) 0 [] (World.ownsRow_nil w _ _ _) ad 1 c' [.int .i64 z] rfl hnews (by simp [Value.oneCell']) (by unfold maxLen; omega) (by omega) (Nat.le_refl _)
      exact ⟨v', w', hrun, r1, r2⟩
  obtain ⟨v', w', hrun, hown', hgrow⟩ := key
  obtain ⟨g, cap, hv, _, _⟩ := hown'.form (by omega)
  subst hv
  unfold Oper.wp
  simp [execOp, ho, resolve, invoke, builtin, hs, hx, hrun, Result.andThen]
  refine h g cap w' ?_ hgrow
  unfold Oj
  rw [ints_append]
  exact hown'
theorem push_full_num {w : World} {ops : Array Oper} {rest : List Oper} {o : Oper} {a : Act} {Q : Exit → Act → World → Prop} (hwd : Region.wanted o (yielded ops a.tmps) = true) (s x : Operand)
    (ho : o.op = .call { callee := .builtin .append, args := #[s, x], argTypes := #[25, 25] })
    (base : Nat) (A : Option Addr) (n c : Nat) (xs : List Int) (hs : a.eval s = .slice A n n) (hown : Oj w base A n c xs)
    (ad : Addr) (c' : Nat) (z : Int) (hx : a.eval x = .slice (some ad) 1 c') (hz : w.cell? ad = some (.int .i64 z)) (hlen : n < 1099511627776)
    (h : ∀ g cap w', Oj w' w.heap.size (some ⟨g, 0, none⟩) (n + 1) cap (xs ++ [z]) → w.grownBy w' none → wpList Try.prog ops Q rest (a.put o.dst (.slice (some ⟨g, 0, none⟩) (n + 1) cap)) w') : wpList Try.prog ops Q (o :: rest) a w :=
  BigFrame.wpList_want hwd fun _K hK => wp_push_full_num s x ho base A n c xs hs hown ad c' z hx hz hlen (fun g cap w' h1 h2 => hK _ _ (h g cap w' h1 h2))

/-- The first list of f stops more, from one on, that clashes with those that have begun. -/
def cl (b : Int) (ps : List (Int × Int)) : Nat → List Nat → Nat → Option (List Nat)
  | 0, begun, _ => if clashB b ps begun then some begun else none
  | f + 1, begun, next => (List.range' next (ps.length - next)).findSome? fun i => cl b ps f (begun ++ [i]) (i + 1)
def nextOf (l : List Nat) : Nat := match l.getLast? with
  | some i => i + 1
  | none => 0
theorem nextOf_snoc (l : List Nat) (i : Nat) : nextOf (l ++ [i]) = i + 1 := by simp [nextOf]
theorem find_step {α : Type} {G : Nat → Option α} {nx j n : Nat} (h1 : nx ≤ j) (h2 : j < n) (hno : (List.range' nx (j - nx)).findSome? G = none) :
    (G j = none → (List.range' nx (j + 1 - nx)).findSome? G = none) ∧ (∀ L, G j = some L → (List.range' nx (n - nx)).findSome? G = some L) := by
  have e1 : List.range' nx (j + 1 - nx) = List.range' nx (j - nx) ++ [j] := by
    rw [show j + 1 - nx = (j - nx) + 1 by omega, List.range'_1_concat, show nx + (j - nx) = j by omega]
  refine ⟨fun h => by rw [e1, List.findSome?_append, hno]; simp [h], fun L h => ?_⟩
  have e2 : List.range' nx (n - nx) = List.range' nx (j + 1 - nx) ++ List.range' (j + 1) (n - (j + 1)) := by
    have := @List.range'_append_1 nx (j + 1 - nx) (n - (j + 1))
    rw [show nx + (j + 1 - nx) = j + 1 by omega, show (j + 1 - nx) + (n - (j + 1)) = n - nx by omega] at this
    exact this.symm
  rw [e2, e1, List.findSome?_append, List.findSome?_append, hno]
  simp [h]
/-- What a call of 'clashing' comes to. -/
def Clashed (w : World) (base : Nat) (r : Option (List Nat)) (e : Ending) (w' : World) : Prop := ∃ (A : Option Addr) (m c : Nat), e = .returned (.tuple #[.slice A m c, .bool r.isSome]) ∧ (∀ L, r = some L → Oj w' base A m c (ofN L)) ∧ Below w.heap.size w w'

set_option maxRecDepth 100000 in
set_option maxHeartbeats 4000000 in
theorem dClashing (g n c : Nat) (A : Option Addr) (b : Int) (ps : List (Int × Int)) (HP : Hid (Pier b ps)) (base : Nat) :
    ∀ (f : Nat) (begun : List Nat) (D : Option Addr) (k d : Nat) (w : World), Wk w w.heap.size g A n c b ps → Oj w base D k d (ofN begun) → k + f ≤ 10 → (∀ i ∈ begun, i < n) → base ≤ w.heap.size →
      Calls Try.prog 90 #[.pointer (some ⟨g, 0, none⟩), .slice D k d, .int .i64 ((k + f : Nat) : Int)] w (Clashed w base (cl b ps f begun (nextOf begun))) := by
  intro f
  induction f with
  | zero =>
    intro begun D k d w hw ho hk10 hall hbase
    have HALL := Lib.hid hall
    have HLN := Lib.hid hw.rp.len
    have HO := Lib.hid ho
    obtain ⟨r, HR⟩ : ∃ r, Hid (clashB b ps begun = r) := ⟨_, Lib.hid rfl⟩
    have HCL : Hid (cl b ps 0 begun (nextOf begun) = if r then some begun else none) := Lib.hid (by rw [← HR.out]; rfl)
    have hri := ho.ri
    clear hall ho
    rw [Nat.add_zero]
    go_enter Try.func90, Try.ntmps90
    go_wp2_with fail
    refine (dClash g n c A b ps w hw HP D k d begun hri (by omega) HALL).mono ?_
    rintro e w1 ⟨rfl, hb⟩
    rw [HR.out]
    have HO1 := Lib.hid (HO.out.below hb)
    go_wp2
    go_ret2
    rw [HCL.out]
    refine ⟨D, k, d, by cases r <;> rfl, fun L hL => ?_, hb⟩
    cases r
    · cases hL
    · cases hL
      exact HO1.out
  | succ f ih =>
    intro begun D k d w hw ho hk10 hall hbase
    have HALL := Lib.hid hall
    have HLN := Lib.hid hw.rp.len
    have hn10 : n ≤ 10 := by have := HP.out.hi; have := HLN.out; omega
    have HKL : Hid (begun.length = k) := Lib.hid (by rw [← ofN_length]; exact ho.len)
    have hnx : nextOf begun ≤ n := by
      unfold nextOf
      cases hb : begun.getLast? with
      | none => exact Nat.zero_le _
      | some i => exact hall i (List.mem_of_getLast? hb)
    have HIH := Lib.hid ih
    clear ih hall
    have hcap := ho.cap
    have hne : ((k : Int) == ((k + (f + 1) : Nat) : Int)) = false := by simp; omega
    obtain ⟨nx, HNX⟩ : ∃ nx, Hid (nextOf begun = nx) := ⟨_, Lib.hid rfl⟩
    have HCL : Hid (cl b ps (f + 1) begun (nextOf begun) = (List.range' nx (n - nx)).findSome? fun i => cl b ps f (begun ++ [i]) (i + 1)) := Lib.hid (by rw [HNX.out, cl, HLN.out])
    rw [HCL.out]
    rw [HNX.out] at hnx
    obtain ⟨mv, HMV⟩ : ∃ mv : Int, Hid (((k + (f + 1) : Nat) : Int) = mv) := ⟨_, Lib.hid rfl⟩
    rw [HMV.out] at hne ⊢
    have HO := Lib.hid ho
    rcases Nat.eq_zero_or_pos k with hk0 | hk0
    · subst hk0
      have hbg : begun = [] := List.eq_nil_of_length_eq_zero HKL.out
      obtain rfl : nx = 0 := by rw [← HNX.out, hbg]; rfl
      have hne0 : ((0 : Int) == mv) = false := hne
      clear hbg ho hne
      go_enter Try.func90, Try.ntmps90
      go_wp2_with fail
      go_loopw [9] (fun i wr => ∃ j : Nat, j ≤ n ∧ i = .int .i64 j ∧ Hid ((List.range' 0 (j - 0)).findSome? (fun i => cl b ps f (begun ++ [i]) (i + 1)) = none) ∧ Below w.heap.size w wr) (fun i _ => n - (intOf i).toNat)
      case atStart => exact ⟨0, hnx, rfl, Lib.hid (by rw [Nat.sub_self]; rfl), Below.refl _ _⟩
      case round =>
        obtain ⟨j, hj2, rfl, HNO, hb⟩ := hrel
        have hj1 := Nat.zero_le j
        have kk1 : wr.cell? ⟨g, 1, none⟩ = some (.slice A n c) := (hb.cell hw.lt).trans hw.c1
        by_cases hlt : j < n
        · have hor := HO.out.below hb
          have HF := Lib.hid (find_step (G := fun i => cl b ps f (begun ++ [i]) (i + 1)) hj1 hlt HNO.out)
          obtain ⟨r, HR⟩ : ∃ r, Hid (cl b ps f (begun ++ [j]) (j + 1) = r) := ⟨_, Lib.hid rfl⟩
          rw [HR.out] at HF
          go_wp2_with (refine push_full_num (by kernel_rfl) (.tmp 48) (.tmp 50) rfl base D 0 d (ofN begun) rfl (hor.alloc _) ⟨wr.heap.size, 0, none⟩ 1 (j : Int) rfl (cell_new1 wr _ _) (by omega) ?_; intro g3 cap3 w3 ho3 hg3)
          have hb3 : Below w.heap.size w w3 := (hb.alloc hb.size _).grown hg3 (by have := hb.size; simp; omega) (fun k e => by cases e)
          have hcall := HIH.out (begun ++ [j]) (some ⟨g3, 0, none⟩) (0 + 1) cap3 w3 ((hw.below hb3).more hb3.size) (by rw [ofN_append]; exact ho3.base (by have := hb.size; simp; omega)) (by omega) (fun i hi => by
            rcases List.mem_append.1 hi with hi | hi
            · exact HALL.out i hi
            · rw [List.mem_singleton.1 hi]; exact hlt) (Nat.le_trans hbase hb3.size)
          rw [show 0 + 1 + f = 0 + (f + 1) by omega, HMV.out, nextOf_snoc, HR.out] at hcall
          refine hcall.mono ?_
          clear hcall ho3 hg3
          rintro e w4 ⟨E, me, ce, rfl, hres, hb4⟩
          have HRES := Lib.hid hres
          clear hres
          have hb5 := hb3.trans (hb4.mono hb3.size)
          cases r with
          | none =>
            have HN := Lib.hid (HF.out.1 rfl)
            clear HF
            rw [Option.isSome_none]
            go_wp2
            go_roundw
            case rel => exact ⟨j + 1, by omega, by go_num, HN, hb5⟩
            case measure => simp [intOf]; omega
          | some L =>
            have HS := Lib.hid (HF.out.2 L rfl)
            have HOL := Lib.hid (HRES.out L rfl)
            clear HF HRES
            rw [Option.isSome_some]
            go_wp2
            go_ret2
            rw [HS.out]
            exact ⟨E, me, ce, rfl, fun L' h => (by cases h; exact HOL.out), hb5⟩
        · obtain rfl : j = n := by omega
          go_wp2
          go_ret2
          rw [HNO.out]
          exact ⟨none, 0, 0, rfl, fun L h => (by cases h), hb⟩
    · obtain ⟨q, hq⟩ : ∃ q, q + 1 = k := ⟨k - 1, by omega⟩
      have hqk : q < k := by omega
      obtain ⟨ad, x, rfl, _, hcx, hxk, _⟩ := ho.ri.at_ hqk
      obtain ⟨i, hi1, rfl⟩ := ofN_at hxk.out
      have HNI : Hid (((i : Int) + 1) = (nx : Int)) := Lib.hid (by
        rw [← HNX.out]
        unfold nextOf
        rw [List.getLast?_eq_getElem?, HKL.out, ← hq, Nat.add_sub_cancel, hi1]
        rfl)
      have hi10 : i < 10 := by have := HALL.out i (List.mem_of_getElem? hi1); omega
      have hw0 : IntKind.i64.wrap ((k : Int) - 1) = (q : Int) := by rw [IntWalk.i64_in _ (by omega)]; omega
      clear hi1 hxk hq ho
      go_enter Try.func90, Try.ntmps90
      go_wp2_with fail
      go_loopw [9] (fun i wr => ∃ j : Nat, nx ≤ j ∧ j ≤ n ∧ i = .int .i64 j ∧ Hid ((List.range' nx (j - nx)).findSome? (fun i => cl b ps f (begun ++ [i]) (i + 1)) = none) ∧ Below w.heap.size w wr) (fun i _ => n - (intOf i).toNat)
      case atStart => exact ⟨nx, Nat.le_refl _, hnx, by rw [HNI.out], Lib.hid (by rw [Nat.sub_self]; rfl), Below.refl _ _⟩
      case round =>
        obtain ⟨j, hj1, hj2, rfl, HNO, hb⟩ := hrel
        have kk1 : wr.cell? ⟨g, 1, none⟩ = some (.slice A n c) := (hb.cell hw.lt).trans hw.c1
        by_cases hlt : j < n
        · have hor := HO.out.below hb
          have HF := Lib.hid (find_step (G := fun i => cl b ps f (begun ++ [i]) (i + 1)) hj1 hlt HNO.out)
          obtain ⟨r, HR⟩ : ∃ r, Hid (cl b ps f (begun ++ [j]) (j + 1) = r) := ⟨_, Lib.hid rfl⟩
          rw [HR.out] at HF
          go_wp2_with (refine push_full_num (by kernel_rfl) (.tmp 48) (.tmp 50) rfl base (some ad) k d (ofN begun) rfl (hor.alloc _) ⟨wr.heap.size, 0, none⟩ 1 (j : Int) rfl (cell_new1 wr _ _) (by omega) ?_; intro g3 cap3 w3 ho3 hg3)
          have hb3 : Below w.heap.size w w3 := (hb.alloc hb.size _).grown hg3 (by have := hb.size; simp; omega) (fun k e => by cases e)
          have hcall := HIH.out (begun ++ [j]) (some ⟨g3, 0, none⟩) (k + 1) cap3 w3 ((hw.below hb3).more hb3.size) (by rw [ofN_append]; exact ho3.base (by have := hb.size; simp; omega)) (by omega) (fun i hi => by
            rcases List.mem_append.1 hi with hi | hi
            · exact HALL.out i hi
            · rw [List.mem_singleton.1 hi]; exact hlt) (Nat.le_trans hbase hb3.size)
          rw [show k + 1 + f = k + (f + 1) by omega, HMV.out, nextOf_snoc, HR.out] at hcall
          refine hcall.mono ?_
          clear hcall ho3 hg3
          rintro e w4 ⟨E, me, ce, rfl, hres, hb4⟩
          have HRES := Lib.hid hres
          clear hres
          have hb5 := hb3.trans (hb4.mono hb3.size)
          cases r with
          | none =>
            have HN := Lib.hid (HF.out.1 rfl)
            clear HF
            rw [Option.isSome_none]
            go_wp2
            go_roundw
            case rel => exact ⟨j + 1, by omega, by omega, by go_num, HN, hb5⟩
            case measure => simp [intOf]; omega
          | some L =>
            have HS := Lib.hid (HF.out.2 L rfl)
            have HOL := Lib.hid (HRES.out L rfl)
            clear HF HRES
            rw [Option.isSome_some]
            go_wp2
            go_ret2
            rw [HS.out]
            exact ⟨E, me, ce, rfl, fun L' h => (by cases h; exact HOL.out), hb5⟩
        · obtain rfl : j = n := by omega
          go_wp2
          go_ret2
          rw [HNO.out]
          exact ⟨none, 0, 0, rfl, fun L h => (by cases h), hb⟩
end Go.Proofs.Ytaekjnjignlmoaa

namespace Go.Proofs.Ytaekjnjignlmoaa
open Go.RowKit Go.Shelf

theorem lIndex (A : Option Addr) (n c B : Nat) (xs : List Int) (z : Int) (w : World) (hx : Ri w B A n xs) (hn : n ≤ 1099511627776) (r : Bool) (HR : Hid (decide (z ∈ xs) = r)) :
    Calls Try.prog 101 #[.slice A n c, .int .i64 z] w fun e w' => (∃ k : Int, e = .returned (.int .i64 k) ∧ decide (0 ≤ k) = r) ∧ w = w' := by
  have HL := Lib.hid hx.len
  go_enter Try.func101, Try.ntmps101
  go_wp2
  go_loop [5, 8] (fun _ i => ∃ k : Nat, k ≤ n ∧ i = .int .i64 k ∧ Hid (z ∉ xs.take k)) (fun _ i => n - (intOf i).toNat)
  case atStart => exact ⟨0, Nat.zero_le _, rfl, Lib.hid (by simp)⟩
  case round =>
    obtain ⟨k, hk, rfl, hno⟩ := hrel
    by_cases hlt : k < n
    · obtain ⟨ad, x, rfl, _, hc, hxk, _⟩ := hx.at_ hlt
      by_cases hz : z = x
      · have HX : Hid (r = true) := Lib.hid (by rw [← HR.out, hz]; exact decide_eq_true (List.mem_of_getElem? hxk.out))
        subst hz
        go_wp2
        go_ret
        exact ⟨⟨k, rfl, by rw [HX.out]; simp⟩, rfl⟩
      · have HX : Hid (z ∉ xs.take (k + 1)) := Lib.hid (by rw [List.take_add_one, hxk.out]; simp; exact ⟨hno.out, hz⟩)
        go_wp2
        go_round
        case rel => exact ⟨k + 1, by omega, by go_num, HX⟩
        case measure => simp [intOf]; omega
    · have HX : Hid (r = false) := Lib.hid (by rw [← HR.out]; have := hno.out; rw [List.take_of_length_le (by rw [HL.out]; omega)] at this; exact decide_eq_false this)
      go_wp2
      go_ret
      exact ⟨⟨-1, rfl, by rw [HX.out]; simp⟩, rfl⟩
theorem lContains (A : Option Addr) (n c B : Nat) (xs : List Int) (z : Int) (w : World) (hx : Ri w B A n xs) (hn : n ≤ 1099511627776) (r : Bool) (HR : Hid (decide (z ∈ xs) = r)) :
    Calls Try.prog 59 #[.slice A n c, .int .i64 z] w fun e w' => e = .returned (.bool r) ∧ w = w' := by
  go_enter Try.func59, Try.ntmps59
  go_wp2_with (go_at_call 101; refine (lIndex _ _ _ _ _ _ _ hx hn _ HR).mono ?_; rintro e w' ⟨⟨k, rfl, hk⟩, rfl⟩; have HK := Lib.hid hk; clear hk)
  go_ret
  exact ⟨ret_b HK.out, rfl⟩
theorem size_int : (Try.prog.info? 2).map (·.size) = some 1 := by kernel_rfl
set_option maxRecDepth 100000 in
/-- A row that the call itself made is full of zeroes. -/
theorem make_int {w : World} {ops : Array Oper} {rest : List Oper} {o : Oper} {a : Act} {Q : Exit → Act → World → Prop} (hg : o.guard = none) (l c : Operand) (hop : o.op = .makeSlice 28 l c)
    (n : Nat) (V : Int) (hl : a.eval l = .int .i64 V) (hc : a.eval c = .int .i64 V) (hV : V = (n : Int)) (hn : n ≤ 1073741824)
    (h : ∀ w', Hid (w'.heap[w.heap.size]? = some (.cells (List.replicate n (Value.int .i64 0)).toArray 2 (0, 0))) → Below w.heap.size w w' → wpList Try.prog ops Q rest (a.put o.dst (.slice (some ⟨w.heap.size, 0, none⟩) n n)) w') : wpList Try.prog ops Q (o :: rest) a w := by
  obtain ⟨i0, hi, hz0, hz1, hz2⟩ := info_parts info_int
  refine wpList_make_full w hg l c _ hop w.heap.size _ i0 _ 1 under_ints hi hz0 hz1 .i64 .i64 _ _ n hl hc hV hV (by rw [hz2]; omega) (by unfold maxLen; omega) (Nat.le_refl _) ?_
  intro w' hown hgrow
  refine h w' ?_ (below_grown0 hgrow)
  have e : (madeCells (Value.int .i64 0).cells (n * 1)).toList = List.replicate n (Value.int .i64 0) := by
    rw [Nat.mul_one]
    show (madeCells #[Value.int .i64 0] n).toList = _
    rw [toList_madeCells_one]
  rw [e] at hown
  rcases hown.2 with ⟨h', _⟩ | ⟨g', cap', cur, h', _, hg', h4, _, h5, h6⟩
  · cases h'
  · injection h' with e1 e2 e3
    injection e1 with e1
    injection e1 with e1
    subst e1
    subst e3
    rw [Nat.mul_one] at h5 h6
    have hc : cur.toList = List.replicate n (Value.int .i64 0) := by
      rw [← h6]
      exact (List.take_of_length_le (by rw [Array.length_toList, h5]; exact Nat.le_refl _)).symm
    have hc2 : cur = (List.replicate n (Value.int .i64 0)).toArray := by rw [← hc]
    rw [← hc2]
    exact Lib.hid hg'

theorem Ri.take {w : World} {B n : Nat} {A : Option Addr} {xs : List Int} (h : Ri w B A n xs) {k : Nat} (hk : k ≤ n) : Ri w B A k (xs.take k) := by
  have hl := h.len
  have e : ints (xs.take k) = (ints xs).take k := by unfold ints; exact List.map_take
  refine ⟨by rw [e, List.length_take, ints_length]; omega, fun h0 => ?_⟩
  obtain ⟨ad, h1, h2, h3⟩ := h.2 (by omega)
  refine ⟨ad, h1, h2, fun j hj => ?_⟩
  have hj2 : j < (ints xs).length := by rw [e, List.length_take] at hj; omega
  have hjk : j < k := by rw [e, List.length_take] at hj; omega
  have h4 : (ints (xs.take k))[j]? = some (ints xs)[j] := by rw [e, List.getElem?_take_of_lt hjk, List.getElem?_eq_getElem hj2]
  rw [List.getElem?_eq_getElem hj] at h4
  rw [h3 j hj2, Option.some.inj h4]

theorem arr_source {W : World} {k m : Nat} {S : List Int} (h : Bk W k 85 (arr10 S)) (hm : m ≤ 10) (hS : S.length = 10) : ∀ j u, (ints (S.take m))[j]? = some u → W.cell? (Addr.add ⟨k, 0, none⟩ j) = some u := fun j u hj => by
  have hj2 : j < m := by
    have := (List.getElem?_eq_some_iff.1 hj).1
    rw [ints_length, List.length_take] at this
    omega
  rw [add_lit0, h.cell j, arr10_at S (by omega), ← hj]
  unfold ints
  rw [List.getElem?_map, List.getElem?_take_of_lt hj2, some_nth (by omega)]
  rfl
set_option maxRecDepth 100000 in
set_option maxHeartbeats 1000000 in
theorem fCkRound_err (b : Int) (A : Option Addr) (n c : Nat) (ps : List (Int × Int)) (B : Option Addr) (m d : Nat) (w : World) (hx : Rp w w.heap.size A n ps) (hn : n ≤ 1048576) (q : Int) (HP : Hid (checkPier b ps = q)) (hq : ¬ q = 0) :
    Calls Try.prog 19 #[.agg #[.int .i64 b, .slice A n c], .slice B m d] w (RetLE w [] q) := by
  have hbk0 := Bk.new w 24 #[.int .i64 b, .slice A n c]
  have hc0 : (w.alloc (.cells #[.int .i64 b, .slice A n c] 24)).cell? ⟨w.heap.size, 0, none⟩ = some (.int .i64 b) := hbk0.cell 0
  have hc1 : (w.alloc (.cells #[.int .i64 b, .slice A n c] 24)).cell? ⟨w.heap.size, 1, none⟩ = some (.slice A n c) := hbk0.cell 1
  have hb0 : Below w.heap.size w (w.alloc (.cells #[.int .i64 b, .slice A n c] 24)) := (Below.refl _ w).alloc (Nat.le_refl _) _
  have hx0 := hx.next hb0 (Nat.le_refl _) hb0.size
  go_enter Try.func19, Try.ntmps19
  go_wp2_with fail
  refine (fOpen_err b A n c ps _ hx0 hn q HP hq).mono ?_
  rintro e w1 ⟨rfl, hb⟩
  go_wp2
  go_ret2
  exact ⟨none, 0, 0, rfl, Oi.nil_ _ _, hb0.trans (hb.mono (by simp))⟩

set_option maxRecDepth 100000 in
set_option maxHeartbeats 4000000 in
theorem fCkRound_ok (b : Int) (A : Option Addr) (n c : Nat) (ps : List (Int × Int)) (B : Option Addr) (m d : Nat) (L : List Int) (w : World) (hx : Rp w w.heap.size A n ps) (hn : n ≤ 1048576) (hc : n ≤ c) (hl : Ri w w.heap.size B m L) (hm : m ≤ 1048576) (hd : m ≤ d) (HP : Hid (Pier b ps)) (v : List Int × Int) (HV : Hid (checkRoundS b ps L = v)) :
    Calls Try.prog 19 #[.agg #[.int .i64 b, .slice A n c], .slice B m d] w (RetLE w v.1 v.2) := by
  have HCP : Hid (checkPier b ps = 0) := Lib.hid (checkPier_ok.2 HP.out)
  have HLN := Lib.hid hx.len
  have HLM := Lib.hid hl.len
  have hn10 : n ≤ 10 := by have := HP.out.hi; have := HLN.out; omega
  have hn0 : 0 < n := by have := HP.out.lo; have := HLN.out; omega
  have hbk0 := Bk.new w 24 #[.int .i64 b, .slice A n c]
  have hc0 : (w.alloc (.cells #[.int .i64 b, .slice A n c] 24)).cell? ⟨w.heap.size, 0, none⟩ = some (.int .i64 b) := hbk0.cell 0
  have hc1 : (w.alloc (.cells #[.int .i64 b, .slice A n c] 24)).cell? ⟨w.heap.size, 1, none⟩ = some (.slice A n c) := hbk0.cell 1
  have hb0 : Below w.heap.size w (w.alloc (.cells #[.int .i64 b, .slice A n c] 24)) := (Below.refl _ w).alloc (Nat.le_refl _) _
  have hx0 := hx.next hb0 (Nat.le_refl _) hb0.size
  have hV : (if m = n then (if (List.range n).any (badAt L n) then ([], 2) else if stepsL b ps (natsL L) = zeros then ([], 16) else if 0 < lateL ps (stepsL b ps (natsL L)) then ([], 12) else ((stepsL b ps (natsL L)).take n, 0)) else ([], 15)) = v := by
    rw [← HV.out]
    unfold checkRoundS
    rw [if_pos HCP.out, HLN.out, HLM.out]
  have HV2 := Lib.hid hV
  clear hV
  by_cases hmn : m = n
  · subst hmn
    have HV3 : Hid ((if (List.range m).any (badAt L m) then ([], 2) else if stepsL b ps (natsL L) = zeros then ([], 16) else if 0 < lateL ps (stepsL b ps (natsL L)) then ([], 12) else ((stepsL b ps (natsL L)).take m, 0)) = v) := Lib.hid (by have := HV2.out; rwa [if_pos rfl] at this)
    go_enter Try.func19, Try.ntmps19
    go_wp2_with fail
    refine (fOpen_ok b A m c ps _ hx0 hn hc HCP).mono ?_
    rintro e w1 ⟨g, rfl, hw, hg, hb⟩
    have k0 := hbk0.below hb hbk0.lt
    have hb1 : Below w.heap.size w w1 := hb0.trans (hb.mono (by simp))
    have k1 : w1.cell? ⟨w.heap.size, 1, none⟩ = some (.slice A m c) := k0.cell 1
    clear hbk0 hc0 hc1 hb0 hx0 hb
    go_wp2
    go_loopw [31] (fun i wr => ∃ k : Nat, k ≤ m ∧ i = .int .i64 k ∧ Hid ((List.range k).any (badAt L m) = false) ∧ Below w1.heap.size w1 wr) (fun i _ => m - (intOf i).toNat)
    case atStart => exact ⟨0, Nat.zero_le _, rfl, Lib.hid rfl, Below.refl _ _⟩
    case round =>
      obtain ⟨k, hk, rfl, HNO, hbr⟩ := hrel
      have hlr := (hl.below hb1).below' hbr hb1.size
      by_cases hlt : k < m
      · obtain ⟨ad, x, rfl, _, hcx, hxk, _⟩ := hlr.at_ hlt
        have HX : Hid (nth L k = x) := Lib.hid (nth_some hxk.out)
        have hlit := (Oi.lit1 wr x).ri
        obtain ⟨r1, HR1⟩ : ∃ r, Hid ([x].any (outB 0 ((m : Int) - 1)) = r) := ⟨_, Lib.hid rfl⟩
        have hcall := fWithin 0 ((m : Int) - 1) _ 1 1 _ _ hlit (by omega) r1 HR1
        have HCALL := Lib.hid hcall
        clear hcall hlit
        cases r1
        · obtain ⟨r2, HR2⟩ : ∃ r, Hid (decide (x ∈ L.take k) = r) := ⟨_, Lib.hid rfl⟩
          have HNX : Hid (badAt L m k = r2) := Lib.hid (by
            unfold badAt
            rw [HX.out, HR2.out]
            have := HR1.out
            simp only [List.any_cons, List.any_nil, Bool.or_false] at this
            rw [this]
            rfl)
          have htk : Ri wr w.heap.size (some ad) k (L.take k) := hlr.take (by omega)
          have hkd : k ≤ d := by omega
          cases r2
          · have HNO2 : Hid ((List.range (k + 1)).any (badAt L m) = false) := Lib.hid (by rw [List.range_succ, List.any_append, HNO.out]; simp [HNX.out])
            go_wp2_with fail
            refine HCALL.out.mono ?_
            rintro e w2 ⟨rfl, hb2, hse⟩
            clear hse
            have hb3 : Below wr.heap.size wr w2 := ((Below.refl _ wr).alloc (Nat.le_refl _) _).trans (hb2.mono (by simp))
            have htk2 := htk.below' hb3 (Nat.le_trans hb1.size hbr.size)
            go_wp2_with fail
            refine (lContains (some ad) k d _ _ x _ htk2 (by omega) _ HR2).mono ?_
            rintro e w3 ⟨rfl, rfl⟩
            go_wp2
            go_roundw
            case rel => exact ⟨k + 1, by omega, by go_num, HNO2, hbr.trans (hb3.mono hbr.size)⟩
            case measure => simp [intOf]; omega
          · have HE : Hid (v = ([], 2)) := Lib.hid (by
              rw [← HV3.out, if_pos]
              exact List.any_eq_true.2 ⟨k, List.mem_range.2 hlt, HNX.out⟩)
            go_wp2_with fail
            refine HCALL.out.mono ?_
            rintro e w2 ⟨rfl, hb2, hse⟩
            clear hse
            have hb3 : Below wr.heap.size wr w2 := ((Below.refl _ wr).alloc (Nat.le_refl _) _).trans (hb2.mono (by simp))
            have htk2 := htk.below' hb3 (Nat.le_trans hb1.size hbr.size)
            go_wp2_with fail
            refine (lContains (some ad) k d _ _ x _ htk2 (by omega) _ HR2).mono ?_
            rintro e w3 ⟨rfl, rfl⟩
            go_wp2
            go_ret2
            rw [HE.out]
            exact ⟨none, 0, 0, rfl, Oi.nil_ _ _, (hb1.trans (hbr.mono hb1.size)).trans (hb3.mono (Nat.le_trans hb1.size hbr.size))⟩
        · have HE : Hid (v = ([], 2)) := Lib.hid (by
            rw [← HV3.out, if_pos]
            refine List.any_eq_true.2 ⟨k, List.mem_range.2 hlt, ?_⟩
            unfold badAt
            rw [HX.out]
            have := HR1.out
            simp only [List.any_cons, List.any_nil, Bool.or_false] at this
            rw [this]
            rfl)
          go_wp2_with fail
          refine HCALL.out.mono ?_
          rintro e w2 ⟨rfl, hb2, hse⟩
          clear hse
          have hb3 : Below wr.heap.size wr w2 := ((Below.refl _ wr).alloc (Nat.le_refl _) _).trans (hb2.mono (by simp))
          go_wp2
          go_ret2
          rw [HE.out]
          exact ⟨none, 0, 0, rfl, Oi.nil_ _ _, (hb1.trans (hbr.mono hb1.size)).trans (hb3.mono (Nat.le_trans hb1.size hbr.size))⟩
      · obtain rfl : k = m := by omega
        have hbad := bad_none HLM.out HNO.out
        have HBK : Hid (ofN (natsL L) = L) := Lib.hid (natsL_back fun x hx => (hbad.1 x hx).1)
        have HALL : Hid (∀ i ∈ natsL L, i < k) := Lib.hid (natsL_lt hbad.1)
        have HLL : Hid ((natsL L).length = k) := Lib.hid (by unfold natsL; rw [List.length_map]; exact HLM.out)
        have HV4 : Hid ((if stepsL b ps (natsL L) = zeros then ([], 16) else if 0 < lateL ps (stepsL b ps (natsL L)) then ([], 12) else ((stepsL b ps (natsL L)).take k, 0)) = v) := Lib.hid (by have := HV3.out; rwa [HNO.out, if_neg (by decide)] at this)
        have HSB := Lib.hid (stepsL_bd HP.out (l := natsL L) (by rw [HLN.out]; exact HALL.out) (by rw [HLL.out]; exact hn10))
        obtain ⟨l, HNL⟩ : ∃ l, Hid (natsL L = l) := ⟨_, Lib.hid rfl⟩
        rw [HNL.out] at HBK HALL HV4 HSB
        obtain ⟨S, HLS⟩ : ∃ S, Hid (stepsL b ps l = S) := ⟨_, Lib.hid rfl⟩
        rw [HLS.out] at HV4 HSB
        have hlo : Ri wr wr.heap.size B k (ofN l) := by rw [HBK.out]; exact hlr.more (Nat.le_trans hb1.size hbr.size)
        have hwr := (hw.below hbr).more hbr.size
        have hb2 : Below w.heap.size w wr := hb1.trans (hbr.mono hb1.size)
        obtain ⟨r1, HR1⟩ : ∃ r, Hid (decide (S ≠ zeros) = r) := ⟨_, Lib.hid rfl⟩
        obtain ⟨z, HZ⟩ : ∃ z, Hid (lateL ps S = z) := ⟨_, Lib.hid rfl⟩
        rw [HZ.out] at HV4
        clear hbad hlr hl
        have hcall := dSteps g k c A b ps wr hwr HP B k d l hlo (by omega) HALL
        rw [HLS.out, HR1.out] at hcall
        have HCALL := Lib.hid hcall
        clear hcall
        cases r1
        · have HE : Hid (v = ([], 16)) := Lib.hid (by rw [← HV4.out, if_pos]; have := HR1.out; simpa using this)
          go_wp2_with fail
          refine HCALL.out.mono ?_
          rintro e w2 ⟨rfl, hb3⟩
          have hbO := Bk.new w2 85 (arr10 zeros)
          go_wp2_with (refine store_steps rfl (.tmp 10) (.tmp 55) rfl w2.heap.size S zeros rfl rfl hbO ?_; intro w3 hk3 hb4 hs3)
          go_ret2
          rw [HE.out]
          exact ⟨none, 0, 0, rfl, Oi.nil_ _ _, ((hb2.trans (hb3.mono hb2.size)).alloc (Nat.le_trans hb2.size hb3.size) _).trans (hb4.mono (Nat.le_trans hb2.size hb3.size))⟩
        · have HV5 : Hid ((if 0 < z then ([], 12) else (S.take k, 0)) = v) := Lib.hid (by have := HV4.out; rwa [if_neg (by have := HR1.out; simpa using this)] at this)
          go_wp2_with fail
          refine HCALL.out.mono ?_
          rintro e w2 ⟨rfl, hb3⟩
          have hbO := Bk.new w2 85 (arr10 zeros)
          have hbe2 := hb2.trans (hb3.mono hb2.size)
          go_wp2_with (first | (refine store_steps rfl (.tmp 10) (.tmp 55) rfl w2.heap.size S zeros rfl rfl hbO ?_; intro w3 hk3 hb4 hs3) | (refine load_stepsG (by kernel_rfl) (.tmp 10) rfl w2.heap.size rfl hk3 ?_))
          have hbe3 : Below w.heap.size w w3 := (hbe2.alloc hbe2.size _).trans (hb4.mono hbe2.size)
          have hbw3 : Below w1.heap.size w1 w3 := ((hbr.trans (hb3.mono hbr.size)).alloc (Nat.le_trans hbr.size hb3.size) _).trans (hb4.mono (Nat.le_trans hbr.size hb3.size))
          refine (dLate g k c A b ps _ ((hw.below hbw3).more hbw3.size) HP S (Lib.hid HSB.out.1) (Lib.hid HSB.out.2)).mono ?_
          rintro e w4 ⟨rfl, hb5⟩
          rw [HZ.out]
          have hk4 := hk3.below hb5 hk3.lt
          have hbe4 := hbe3.trans (hb5.mono hbe3.size)
          by_cases hz : 0 < z
          · have HE : Hid (v = ([], 12)) := Lib.hid (by rw [← HV5.out, if_pos hz])
            go_wp2
            go_ret2
            rw [HE.out]
            exact ⟨none, 0, 0, rfl, Oi.nil_ _ _, hbe4⟩
          · have HE : Hid (v = (S.take k, 0)) := Lib.hid (by rw [← HV5.out, if_neg hz])
            have HSL : Hid ((S.take k).length = k) := Lib.hid (by rw [List.length_take, HSB.out.1]; omega)
            have HMIN : Hid (Nat.min 10 k = k) := Lib.hid (by show min 10 k = k; omega)
            have HMN : Hid ((ints (S.take k)).length = Nat.min 10 k) := Lib.hid (by rw [ints_length, HSL.out, HMIN.out])
            have HFIT : Hid (0 + (ints (S.take k)).length ≤ (List.replicate k (Value.int .i64 0)).length) := Lib.hid (by rw [ints_length, HSL.out, List.length_replicate]; omega)
            have HONE : Hid (∀ u ∈ ints (S.take k), u.oneCell' = true) := Lib.hid (fun u hu => by obtain ⟨x, _, rfl⟩ := List.mem_map.1 hu; rfl)
            go_wp2_with (first
              | (at_make; go_must (refine make_int rfl (.tmp 66) (.tmp 66) rfl k _ rfl rfl rfl (by omega) ?_); go_must (intro w5 HM hb6; have hk5 := hk4.below hb6 hk4.lt))
              | (with_reducible (show wpList _ _ _ (⟨some 70, _, _, _, _, _⟩ :: _) _ _); go_must (refine wpList_copy_splice rfl (.tmp 68) (.tmp 69) 28 28 rfl 2 under_ints size_int (some ⟨w4.heap.size, 0, none⟩) (some ⟨w2.heap.size, 0, none⟩) k k 10 10 rfl rfl w4.heap.size 0 (List.replicate k (Value.int .i64 0)) 2 HM.out (ints (S.take k)) HMN.out (fun _ => ⟨rfl, _, rfl, arr_source hk5 hn10 HSB.out.1⟩) HFIT.out HONE.out w4.heap.size w4 hb6 (Nat.le_refl _) ?_); go_must (intro w6 HM3 hb7)))
            have hOut : Oi w6 w.heap.size (some ⟨w4.heap.size, 0, none⟩) k k (S.take k) := by
              have e : splice (List.replicate k (Value.int .i64 0)) 0 (ints (S.take k)) = ints (S.take k) := by
                unfold splice
                rw [List.take_zero, List.nil_append, List.drop_of_length_le (by rw [List.length_replicate, ints_length, HSL.out]; omega), List.append_nil]
              have h := HM3.out
              rw [e] at h
              refine ⟨by rw [ints_length, HSL.out]; omega, .inr ⟨w4.heap.size, k, (ints (S.take k)).toArray, rfl, hbe4.size, h, Nat.le_refl _, by unfold maxLen; omega, by rw [List.size_toArray, ints_length, HSL.out]; omega, ?_⟩⟩
              exact List.take_of_length_le (by show (ints (S.take k)).length ≤ k * 1; rw [ints_length, HSL.out]; omega)
            go_ret2
            rw [HE.out]
            exact ⟨_, _, _, rfl, hOut, hbe4.trans (hb7.mono hbe4.size)⟩
  · have HE : Hid (v = ([], 15)) := Lib.hid (by rw [← HV2.out, if_neg hmn])
    have hne : ((m : Int) != (n : Int)) = true := by simp; omega
    go_enter Try.func19, Try.ntmps19
    go_wp2_with fail
    refine (fOpen_ok b A n c ps _ hx0 hn hc HCP).mono ?_
    rintro e w1 ⟨g, rfl, hw, hg, hb⟩
    have k0 := hbk0.below hb hbk0.lt
    have hb1 : Below w.heap.size w w1 := hb0.trans (hb.mono (by simp))
    have k1 : w1.cell? ⟨w.heap.size, 1, none⟩ = some (.slice A n c) := k0.cell 1
    clear hbk0 hc0 hc1 hb0 hx0 hb
    go_wp2
    go_ret2
    rw [HE.out]
    exact ⟨none, 0, 0, rfl, Oi.nil_ _ _, hb1⟩
end Go.Proofs.Ytaekjnjignlmoaa

namespace Go.Proofs.Ytaekjnjignlmoaa
open Go.RowKit Go.Shelf

def nextAt (L : List Int) (i : Nat) : Int := if i = 0 then 0 else nth L (i - 1) + 1
def badC (L : List Int) (n : Nat) (i : Nat) : Bool := outB (nextAt L i) ((n : Int) - 1) (nth L i)
def checkClashS (b : Int) (ps : List (Int × Int)) (L : List Int) : Int :=
  if checkPier b ps = 0 then (if (List.range L.length).any (badC L ps.length) then 2 else if clashB b ps (natsL L) then 0 else 5) else checkPier b ps
def clashS (b : Int) (ps : List (Int × Int)) : List Nat × Int :=
  if checkPier b ps = 0 then (match (List.range' 1 ps.length).findSome? (fun m => cl b ps m [] 0) with
    | some L => (L, 0)
    | none => ([], 5)) else ([], checkPier b ps)
theorem badC_none {L : List Int} {n m : Nat} (_hl : L.length = m) (h : (List.range m).any (badC L n) = false) : ∀ i : Nat, i < m → (0 ≤ nth L i ∧ nth L i < n) ∧ (0 < i → nth L (i - 1) < nth L i) := by
  have key : ∀ i : Nat, i < m → nextAt L i ≤ nth L i ∧ nth L i ≤ (n : Int) - 1 := fun i hi => by
    have h1 := List.any_eq_false.1 h i (List.mem_range.2 hi)
    unfold badC at h1
    rw [Bool.not_eq_true, outB_false] at h1
    exact h1
  intro i
  induction i with
  | zero =>
    intro hi
    have := key 0 hi
    unfold nextAt at this
    rw [if_pos rfl] at this
    exact ⟨by omega, fun h => by omega⟩
  | succ i ih =>
    intro hi
    have h1 := key (i + 1) hi
    have h2 := (ih (by omega)).1
    unfold nextAt at h1
    rw [if_neg (by omega), Nat.add_sub_cancel] at h1
    exact ⟨by omega, fun _ => by rw [Nat.add_sub_cancel]; omega⟩
theorem badC_all {L : List Int} {n m : Nat} (hl : L.length = m) (h : (List.range m).any (badC L n) = false) : ∀ x ∈ L, 0 ≤ x ∧ x < n := fun x hx => by
  obtain ⟨j, hj, he⟩ := List.getElem_of_mem hx
  have h1 := (badC_none hl h j (by omega)).1
  rw [nth_some (List.getElem?_eq_getElem hj), he] at h1
  exact h1

set_option maxRecDepth 100000 in
set_option maxHeartbeats 2000000 in
theorem fCkClash (b : Int) (A : Option Addr) (n c : Nat) (ps : List (Int × Int)) (B : Option Addr) (m d : Nat) (L : List Int) (w : World) (hx : Rp w w.heap.size A n ps) (hn : n ≤ 1048576) (hc : n ≤ c) (hl : Ri w w.heap.size B m L) (hm : m ≤ 1048576) (v : Int) (HV : Hid (checkClashS b ps L = v)) :
    Calls Try.prog 43 #[.agg #[.int .i64 b, .slice A n c], .slice B m d] w (RetI w v) := by
  have HLN := Lib.hid hx.len
  have HLM := Lib.hid hl.len
  have hbk0 := Bk.new w 24 #[.int .i64 b, .slice A n c]
  have hc0 : (w.alloc (.cells #[.int .i64 b, .slice A n c] 24)).cell? ⟨w.heap.size, 0, none⟩ = some (.int .i64 b) := hbk0.cell 0
  have hc1 : (w.alloc (.cells #[.int .i64 b, .slice A n c] 24)).cell? ⟨w.heap.size, 1, none⟩ = some (.slice A n c) := hbk0.cell 1
  have hb0 : Below w.heap.size w (w.alloc (.cells #[.int .i64 b, .slice A n c] 24)) := (Below.refl _ w).alloc (Nat.le_refl _) _
  have hx0 := hx.next hb0 (Nat.le_refl _) hb0.size
  by_cases h0 : checkPier b ps = 0
  · have HP : Hid (Pier b ps) := Lib.hid (checkPier_ok.1 h0)
    have HCP := Lib.hid h0
    have hn10 : n ≤ 10 := by have := HP.out.hi; have := HLN.out; omega
    have hn0 : 0 < n := by have := HP.out.lo; have := HLN.out; omega
    have HV2 : Hid ((if (List.range m).any (badC L n) then 2 else if clashB b ps (natsL L) then 0 else 5) = v) := Lib.hid (by
      rw [← HV.out]
      unfold checkClashS
      rw [if_pos h0, HLM.out, HLN.out])
    clear h0
    go_enter Try.func43, Try.ntmps43
    go_wp2_with fail
    refine (fOpen_ok b A n c ps _ hx0 hn hc HCP).mono ?_
    rintro e w1 ⟨g, rfl, hw, hg, hb⟩
    have k0 := hbk0.below hb hbk0.lt
    have hb1 : Below w.heap.size w w1 := hb0.trans (hb.mono (by simp))
    have k1 : w1.cell? ⟨w.heap.size, 1, none⟩ = some (.slice A n c) := k0.cell 1
    have hgs : w.heap.size + 1 ≤ w1.heap.size := by have := hb.size; simpa using this
    clear hbk0 hc0 hc1 hb0 hx0 hb
    go_wp2
    go_loopw [7, 20] (fun nx i wr => ∃ k : Nat, k ≤ m ∧ i = .int .i64 k ∧ nx = .int .i64 (nextAt L k) ∧ Hid ((List.range k).any (badC L n) = false) ∧ Below w1.heap.size w1 wr) (fun _ i _ => m - (intOf i).toNat)
    case atStart => exact ⟨0, Nat.zero_le _, rfl, rfl, Lib.hid rfl, Below.refl _ _⟩
    case round =>
      obtain ⟨k, hk, rfl, rfl, HNO, hbr⟩ := hrel
      have hlr := (hl.below hb1).below' hbr hb1.size
      by_cases hlt : k < m
      · obtain ⟨ad, x, rfl, _, hcx, hxk, _⟩ := hlr.at_ hlt
        have HX : Hid (nth L k = x) := Lib.hid (nth_some hxk.out)
        have hnb : 0 ≤ nextAt L k ∧ nextAt L k ≤ n := by
          unfold nextAt
          split
          · omega
          · rename_i h
            have hno' : (List.range (k - 1 + 1)).any (badC L n) = false := by rw [show k - 1 + 1 = k by omega]; exact HNO.out
            have hlk : (L.take (k - 1 + 1)).length = k - 1 + 1 := by rw [List.length_take, HLM.out]; omega
            have h1 : nextAt L (k - 1) ≤ nth L (k - 1) ∧ nth L (k - 1) ≤ (n : Int) - 1 := by
              have h2 := List.any_eq_false.1 hno' (k - 1) (List.mem_range.2 (by omega))
              unfold badC at h2
              rw [Bool.not_eq_true, outB_false] at h2
              exact h2
            have h3 : ∀ j : Nat, j < k → 0 ≤ nth L j := by
              intro j
              induction j with
              | zero =>
                intro hj
                have h2 := List.any_eq_false.1 HNO.out 0 (List.mem_range.2 hj)
                unfold badC at h2
                rw [Bool.not_eq_true, outB_false] at h2
                have h4 := h2.1
                unfold nextAt at h4
                rw [if_pos rfl] at h4
                exact h4
              | succ j ih =>
                intro hj
                have h2 := List.any_eq_false.1 HNO.out (j + 1) (List.mem_range.2 hj)
                unfold badC at h2
                rw [Bool.not_eq_true, outB_false] at h2
                have h4 := h2.1
                unfold nextAt at h4
                rw [if_neg (by omega), Nat.add_sub_cancel] at h4
                have := ih (by omega)
                omega
            have := h3 (k - 1) (by omega)
            omega
        obtain ⟨y, HY⟩ : ∃ y, Hid (nextAt L k = y) := ⟨_, Lib.hid rfl⟩
        have kc : wr.cell? ⟨w.heap.size, 1, none⟩ = some (.slice A n c) := (hbr.cell (by show w.heap.size < w1.heap.size; omega)).trans k1
        have hlit := (Oi.lit1 wr x).ri
        obtain ⟨r1, HR1⟩ : ∃ r, Hid ([x].any (outB y ((n : Int) - 1)) = r) := ⟨_, Lib.hid rfl⟩
        rw [HY.out] at hnb ⊢
        have hcall := fWithin y ((n : Int) - 1) _ 1 1 _ _ hlit (by omega) r1 HR1
        have HCALL := Lib.hid hcall
        have HBC : Hid (badC L n k = r1) := Lib.hid (by
          unfold badC
          rw [HX.out, HY.out]
          have := HR1.out
          simpa using this)
        clear hcall hlit
        have hx9 : r1 = false → x + 1 ≤ 10 ∧ 0 ≤ x := fun h => by
          have := HBC.out
          rw [h] at this
          unfold badC at this
          rw [outB_false, HX.out, HY.out] at this
          omega
        cases r1
        · have hx10 := hx9 rfl
          have HNO2 : Hid ((List.range (k + 1)).any (badC L n) = false) := Lib.hid (by rw [List.range_succ, List.any_append, HNO.out]; simp [HBC.out])
          have HNX : Hid (nextAt L (k + 1) = x + 1) := Lib.hid (by unfold nextAt; rw [if_neg (by omega), Nat.add_sub_cancel, HX.out])
          clear hx9
          go_wp2_with fail
          refine HCALL.out.mono ?_
          rintro e w2 ⟨rfl, hb2, hse⟩
          clear hse
          have hb3 : Below wr.heap.size wr w2 := ((Below.refl _ wr).alloc (Nat.le_refl _) _).trans (hb2.mono (by simp))
          go_wp2
          go_roundw
          case rel => exact ⟨k + 1, by omega, by go_num, by rw [HNX.out], HNO2, hbr.trans (hb3.mono hbr.size)⟩
          case measure => simp [intOf]; omega
        · have HE : Hid (2 = v) := Lib.hid (by
            rw [← HV2.out, if_pos]
            exact List.any_eq_true.2 ⟨k, List.mem_range.2 hlt, HBC.out⟩)
          clear hx9
          go_wp2_with fail
          refine HCALL.out.mono ?_
          rintro e w2 ⟨rfl, hb2, hse⟩
          clear hse
          have hb3 : Below wr.heap.size wr w2 := ((Below.refl _ wr).alloc (Nat.le_refl _) _).trans (hb2.mono (by simp))
          go_wp2
          go_ret
          exact ⟨ret_i HE.out, (hb1.trans (hbr.mono hb1.size)).trans (hb3.mono (Nat.le_trans hb1.size hbr.size))⟩
      · obtain rfl : k = m := by omega
        have hall := badC_all HLM.out HNO.out
        have HBK : Hid (ofN (natsL L) = L) := Lib.hid (natsL_back fun x hx => (hall x hx).1)
        have HALL : Hid (∀ i ∈ natsL L, i < n) := Lib.hid (natsL_lt hall)
        have HV3 : Hid ((if clashB b ps (natsL L) then 0 else 5) = v) := Lib.hid (by have := HV2.out; rwa [HNO.out, if_neg (by decide)] at this)
        obtain ⟨l, HNL⟩ : ∃ l, Hid (natsL L = l) := ⟨_, Lib.hid rfl⟩
        rw [HNL.out] at HBK HALL HV3
        have hlo : Ri wr wr.heap.size B k (ofN l) := by rw [HBK.out]; exact hlr.more (Nat.le_trans hb1.size hbr.size)
        have hwr := (hw.below hbr).more hbr.size
        have hb2 : Below w.heap.size w wr := hb1.trans (hbr.mono hb1.size)
        obtain ⟨r, HR⟩ : ∃ r, Hid (clashB b ps l = r) := ⟨_, Lib.hid rfl⟩
        rw [HR.out] at HV3
        clear hall hlr hl
        have hcall := dClash g n c A b ps wr hwr HP B k d l hlo (by omega) HALL
        rw [HR.out] at hcall
        have HCALL := Lib.hid hcall
        clear hcall
        cases r
        · have HE : Hid (5 = v) := Lib.hid (by rw [← HV3.out]; rfl)
          go_wp2_with fail
          refine HCALL.out.mono ?_
          rintro e w2 ⟨rfl, hb3⟩
          go_wp2
          go_ret
          exact ⟨ret_i HE.out, hb2.trans (hb3.mono hb2.size)⟩
        · have HE : Hid (0 = v) := Lib.hid (by rw [← HV3.out]; rfl)
          go_wp2_with fail
          refine HCALL.out.mono ?_
          rintro e w2 ⟨rfl, hb3⟩
          go_wp2
          go_ret
          exact ⟨ret_i HE.out, hb2.trans (hb3.mono hb2.size)⟩
  · have HE : Hid (checkPier b ps = v) := Lib.hid (by rw [← HV.out]; unfold checkClashS; rw [if_neg h0])
    have hv0 : ¬ v = 0 := by rw [← HE.out]; exact h0
    clear h0
    go_enter Try.func43, Try.ntmps43
    go_wp2_with fail
    refine (fOpen_err b A n c ps _ hx0 hn v HE hv0).mono ?_
    rintro e w1 ⟨rfl, hb⟩
    go_wp2
    go_ret
    exact ⟨rfl, hb0.trans (hb.mono (by simp))⟩

set_option maxRecDepth 100000 in
set_option maxHeartbeats 2000000 in
theorem fClash (b : Int) (A : Option Addr) (n c : Nat) (ps : List (Int × Int)) (w : World) (hx : Rp w w.heap.size A n ps) (hn : n ≤ 1048576) (hc : n ≤ c) (v : List Nat × Int) (HV : Hid (clashS b ps = v)) :
    Calls Try.prog 41 #[.agg #[.int .i64 b, .slice A n c]] w (RetJE w (ofN v.1) v.2) := by
  have HLN := Lib.hid hx.len
  have hbk0 := Bk.new w 24 #[.int .i64 b, .slice A n c]
  have hc0 : (w.alloc (.cells #[.int .i64 b, .slice A n c] 24)).cell? ⟨w.heap.size, 0, none⟩ = some (.int .i64 b) := hbk0.cell 0
  have hc1 : (w.alloc (.cells #[.int .i64 b, .slice A n c] 24)).cell? ⟨w.heap.size, 1, none⟩ = some (.slice A n c) := hbk0.cell 1
  have hb0 : Below w.heap.size w (w.alloc (.cells #[.int .i64 b, .slice A n c] 24)) := (Below.refl _ w).alloc (Nat.le_refl _) _
  have hx0 := hx.next hb0 (Nat.le_refl _) hb0.size
  by_cases h0 : checkPier b ps = 0
  · have HP : Hid (Pier b ps) := Lib.hid (checkPier_ok.1 h0)
    have HCP := Lib.hid h0
    have hn10 : n ≤ 10 := by have := HP.out.hi; have := HLN.out; omega
    have hn0 : 0 < n := by have := HP.out.lo; have := HLN.out; omega
    have HV2 : Hid ((match (List.range' 1 n).findSome? (fun m => cl b ps m [] 0) with | some L => ((L, 0) : List Nat × Int) | none => ([], 5)) = v) := Lib.hid (by
      rw [← HV.out]
      unfold clashS
      rw [if_pos h0, HLN.out])
    clear h0
    go_enter Try.func41, Try.ntmps41
    go_wp2_with fail
    refine (fOpen_ok b A n c ps _ hx0 hn hc HCP).mono ?_
    rintro e w1 ⟨g, rfl, hw, hg, hb⟩
    have k0 := hbk0.below hb hbk0.lt
    have hb1 : Below w.heap.size w w1 := hb0.trans (hb.mono (by simp))
    have k1 : w1.cell? ⟨w.heap.size, 1, none⟩ = some (.slice A n c) := k0.cell 1
    have hgs : w.heap.size + 1 ≤ w1.heap.size := by have := hb.size; simpa using this
    clear hbk0 hc0 hc1 hb0 hx0 hb
    go_wp2
    go_loopw [6] (fun i wr => ∃ k : Nat, 1 ≤ k ∧ k ≤ n + 1 ∧ i = .int .i64 k ∧ Hid ((List.range' 1 (k - 1)).findSome? (fun m => cl b ps m [] 0) = none) ∧ Below w1.heap.size w1 wr) (fun i _ => n + 1 - (intOf i).toNat)
    case atStart => exact ⟨1, by omega, by omega, rfl, Lib.hid rfl, Below.refl _ _⟩
    case round =>
      obtain ⟨k, hk1, hk2, rfl, HNO, hbr⟩ := hrel
      have kc : wr.cell? ⟨w.heap.size, 1, none⟩ = some (.slice A n c) := (hbr.cell (by show w.heap.size < w1.heap.size; omega)).trans k1
      have hb2 : Below w.heap.size w wr := hb1.trans (hbr.mono hb1.size)
      by_cases hlt : k ≤ n
      · have HF := Lib.hid (find_step (G := fun m => cl b ps m [] 0) (n := n + 1) hk1 (by omega) HNO.out)
        obtain ⟨r, HR⟩ : ∃ r, Hid (cl b ps k [] 0 = r) := ⟨_, Lib.hid rfl⟩
        have hcall := dClashing g n c A b ps HP w.heap.size k [] none 0 0 wr ((hw.below hbr).more hbr.size) (Oj.nil_ _ _) (by omega) (by simp) hb2.size
        rw [Nat.zero_add, show nextOf [] = 0 from rfl, HR.out] at hcall
        rw [HR.out] at HF
        have HCALL := Lib.hid hcall
        clear hcall
        cases r with
        | none =>
          have HN := Lib.hid (HF.out.1 rfl)
          clear HF
          go_wp2_with fail
          refine HCALL.out.mono ?_
          rintro e w4 ⟨E, me, ce, rfl, hres, hb4⟩
          clear hres
          rw [Option.isSome_none]
          go_wp2
          go_roundw
          case rel => exact ⟨k + 1, by omega, by omega, by go_num, HN, hbr.trans (hb4.mono hbr.size)⟩
          case measure => simp [intOf]; omega
        | some L =>
          have HE : Hid (v = (L, 0)) := Lib.hid (by
            have h := HF.out.2 L rfl
            rw [Nat.add_sub_cancel] at h
            rw [← HV2.out, h])
          clear HF
          go_wp2_with fail
          refine HCALL.out.mono ?_
          rintro e w4 ⟨E, me, ce, rfl, hres, hb4⟩
          have HOL := Lib.hid (hres L rfl)
          clear hres
          rw [Option.isSome_some]
          go_wp2
          go_ret2
          rw [HE.out]
          exact ⟨E, me, ce, rfl, HOL.out, hb2.trans (hb4.mono hb2.size)⟩
      · obtain rfl : k = n + 1 := by omega
        have HE : Hid (v = ([], 5)) := Lib.hid (by
          have h := HNO.out
          rw [Nat.add_sub_cancel] at h
          rw [← HV2.out, h])
        have hnle : ¬ ((n + 1 : Nat) : Int) ≤ (n : Int) := by omega
        go_wp2
        go_ret2
        rw [HE.out]
        exact ⟨none, 0, 0, rfl, Oj.nil_ _ _, hb2⟩
  · have HE : Hid (v = ([], checkPier b ps)) := Lib.hid (by rw [← HV.out]; unfold clashS; rw [if_neg h0])
    go_enter Try.func41, Try.ntmps41
    go_wp2_with fail
    refine (fOpen_err b A n c ps _ hx0 hn _ (Lib.hid rfl) h0).mono ?_
    rintro e w1 ⟨rfl, hb⟩
    go_wp2
    go_ret2
    rw [HE.out]
    exact ⟨none, 0, 0, rfl, Oj.nil_ _ _, hb0.trans (hb.mono (by simp))⟩
end Go.Proofs.Ytaekjnjignlmoaa
