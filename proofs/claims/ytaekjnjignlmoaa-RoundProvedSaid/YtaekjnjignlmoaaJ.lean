/-
  The program: 'best', 'shortest', 'Shortest', 'Round'.
-/
import Derived.Test.YtaekjnjignlmoaaH
import Derived.Test.YtaekjnjignlmoaaRz
namespace Go.Proofs.Ytaekjnjignlmoaa
open Go.RowKit Go.Shelf
attribute [local go_sem] Oper.semAt_some

theorem add_off1 (ad : Addr) (j : Nat) : Addr.add ⟨ad.block, ad.off + 1, none⟩ j = ad.add (j + 1) := by
  rw [add_succ]
  rcases Nat.eq_zero_or_pos j with h | h
  · subst h; rfl
  · unfold Addr.add
    rw [if_neg (by omega)]
/-- What a call that returns a list of numbers of the type int, a number and an error comes to. -/
def RetJII (w : World) (L : List Int) (x r : Int) (e : Ending) (w' : World) : Prop := ∃ (A : Option Addr) (n c : Nat), e = .returned (.tuple #[.slice A n c, .int .i64 x, .int .i64 r]) ∧ Oj w' w.heap.size A n c L ∧ Below w.heap.size w w'
def RetJE (w : World) (L : List Int) (r : Int) (e : Ending) (w' : World) : Prop := ∃ (A : Option Addr) (n c : Nat), e = .returned (.tuple #[.slice A n c, .int .i64 r]) ∧ Oj w' w.heap.size A n c L ∧ Below w.heap.size w w'

set_option maxRecDepth 100000 in
set_option maxHeartbeats 1000000 in
theorem fShorter (bx g n c : Nat) (A : Option Addr) (b : Int) (ps : List (Int × Int)) (w : World) (hbx : Bk w bx 79 #[.pointer (some ⟨g, 0, none⟩)]) (hw : Wk w w.heap.size g A n c b ps) (HP : Hid (Pier b ps)) (A1 A2 : Option Addr) (k c1 c2 : Nat) (l1 l2 : List Nat) (h1 : Ri w w.heap.size A1 k (ofN l1)) (h2 : Ri w w.heap.size A2 k (ofN l2)) (hk : k ≤ 10) (hk0 : 0 < k) (ha1 : Hid (∀ i ∈ l1, i < n)) (ha2 : Hid (∀ i ∈ l2, i < n)) :
    Calls Try.prog 106 #[.slice A1 k c1, .slice A2 k c2, .pointer (some ⟨bx, 0, none⟩)] w (RetB w (decide (lenR b ps l1 < lenR b ps l2))) := by
  have hmix : Try.prog.follows .mixedOrders = true := by kernel_rfl
  have c0 : w.drew.cell? ⟨bx, 0, none⟩ = some (.pointer (some ⟨g, 0, none⟩)) := hbx.cell 0
  go_enter Try.func106, Try.ntmps106
  go_wp2
  refine wp_region_noPanic ?_
  refine wp_region_held_drew (S := fun V => V.cell? ⟨bx, 0, none⟩ = some (.pointer (some ⟨g, 0, none⟩))) hmix c0 (fun hS => ?_)
  refine wpAnyH_take (i := 0) (v := ?_) rfl (by kernel_rfl) (by kernel_rfl) (by kernel_rfl) (fun _ _ _ h => h) (Or.inl ⟨by rfl, ?_⟩) hS ?_
  rotate_left
  · intro w hSw
    (try dsimp only at hSw)
    go_simp
    (try with_reducible rfl)
  try simp (maxSteps := 10000000) only [Act.put, List.setIfInBounds_toArray, List.set_cons_zero, List.set_cons_succ, List.getElem_toArray, List.getElem_cons_zero]
  refine wpAnyH_take (i := 1) (v := ?_) rfl (by kernel_rfl) (by kernel_rfl) (by kernel_rfl) (fun _ _ _ h => h) (Or.inl ⟨by rfl, ?_⟩) hS ?_
  rotate_left
  · intro w hSw
    (try dsimp only at hSw)
    go_simp
    (try with_reducible rfl)
  try simp (maxSteps := 10000000) only [Act.put, List.setIfInBounds_toArray, List.set_cons_zero, List.set_cons_succ, List.getElem_toArray, List.getElem_cons_zero, List.getElem_cons_succ]
  refine wpAnyH_take (i := 3) (v := ?_) rfl (by kernel_rfl) (by kernel_rfl) (by kernel_rfl) (fun _ _ _ h => h) (Or.inl ⟨by rfl, ?_⟩) hS ?_
  rotate_left
  · intro w hSw
    (try dsimp only at hSw)
    go_simp
    (try with_reducible rfl)
  try simp (maxSteps := 10000000) only [Act.put, List.setIfInBounds_toArray, List.set_cons_zero, List.set_cons_succ, List.getElem_toArray, List.getElem_cons_zero, List.getElem_cons_succ]
  refine wpAnyH_take (i := 4) (v := ?_) rfl (by kernel_rfl) (by kernel_rfl) (by kernel_rfl) (fun _ _ _ h => h) (Or.inl ⟨by rfl, ?_⟩) hS ?_
  rotate_left
  · intro w hSw
    (try dsimp only at hSw)
    go_simp
    (try with_reducible rfl)
  try simp (maxSteps := 10000000) only [Act.put, List.setIfInBounds_toArray, List.set_cons_zero, List.set_cons_succ, List.getElem_toArray, List.getElem_cons_zero, List.getElem_cons_succ]
  refine wpAnyH_ready (rs := [2]) (by kernel_rfl) (by simp) ?_
  refine AllReadyH.cons rfl (fun K hK => ?_) AllReadyH.nil
  go_simp
  refine (dLength g n c A b ps _ (hw.drewN 1) HP A1 k c1 l1 (h1.drew) hk hk0 ha1).mono ?_
  rintro e w1 ⟨rfl, hb2⟩
  refine hK.out _ _ ((hb2.cell (p := ⟨bx, 0, none⟩) hbx.lt).trans c0) (fun hS => ?_)
  clear hK K
  try simp (maxSteps := 10000000) only [Act.put, List.setIfInBounds_toArray, List.set_cons_zero, List.set_cons_succ, List.getElem_toArray, List.getElem_cons_zero, List.getElem_cons_succ]
  have hb2' : Below w.heap.size w w1 := (below_drewN (Below.refl _ w) 1).trans hb2
  have hw1 : Wk w1 w1.heap.size g A n c b ps := (hw.below hb2').more hb2'.size
  have h21 : Ri w1 w1.heap.size A2 k (ofN l2) := (h2.below hb2').more hb2'.size
  have hbxl : bx < w1.heap.size := Nat.lt_of_lt_of_le hbx.lt hb2'.size
  refine wpAnyH_ready (rs := [5]) (by kernel_rfl) (by simp) ?_
  refine AllReadyH.cons rfl (fun K hK => ?_) AllReadyH.nil
  go_simp
  refine (dLength g n c A b ps _ hw1 HP A2 k c2 l2 h21 hk hk0 ha2).mono ?_
  rintro e w2 ⟨rfl, hb5⟩
  refine hK.out _ _ ((hb5.cell (p := ⟨bx, 0, none⟩) hbxl).trans hS) (fun hS => ?_)
  clear hK K
  try simp (maxSteps := 10000000) only [Act.put, List.setIfInBounds_toArray, List.set_cons_zero, List.set_cons_succ, List.getElem_toArray, List.getElem_cons_zero, List.getElem_cons_succ]
  refine wpAnyH_take (i := 6) (v := ?_) rfl (by kernel_rfl) (by kernel_rfl) (by kernel_rfl) (fun _ _ _ h => h) (Or.inl ⟨by rfl, ?_⟩) hS ?_
  rotate_left
  · intro w hSw
    (try dsimp only at hSw)
    go_simp
    (try with_reducible rfl)
  try simp (maxSteps := 10000000) only [Act.put, List.setIfInBounds_toArray, List.set_cons_zero, List.set_cons_succ, List.getElem_toArray, List.getElem_cons_zero, List.getElem_cons_succ]
  refine wpAnyH_ready (rs := [7]) (by kernel_rfl) (by simp) ?_
  refine AllReadyH.cons rfl (fun K hK => ?_) AllReadyH.nil
  go_simp
  refine hK.out _ _ hS (fun hS => ?_)
  clear hK K
  try simp (maxSteps := 10000000) only [Act.put, List.setIfInBounds_toArray, List.set_cons_zero, List.set_cons_succ, List.getElem_toArray, List.getElem_cons_zero, List.getElem_cons_succ]
  refine wpAnyH_done (by kernel_rfl) (NoPanic.normal ?_) _
  go_wp2
  go_ret
  exact ⟨rfl, hb2'.trans (hb5.mono hb2'.size)⟩

set_option maxRecDepth 100000 in
set_option maxHeartbeats 2000000 in
theorem lBest (bx g n c : Nat) (A : Option Addr) (b : Int) (ps : List (Int × Int)) (w : World) (hbx : Bk w bx 79 #[.pointer (some ⟨g, 0, none⟩)]) (hw : Wk w w.heap.size g A n c b ps) (HP : Hid (Pier b ps))
    (base N C k : Nat) (G : Option Addr) (Ls : List (List Nat)) (hr : RRj w base G N C k (Ls.map ofN)) (hN : 0 < N) (hN2 : N ≤ 1000) (hk : k ≤ 10) (hk0 : 0 < k) (HA : Hid (∀ l ∈ Ls, ∀ i ∈ l, i < n)) :
    Calls Try.prog 105 #[.slice G N C, .func (.func 106) #[] #[.pointer (some ⟨bx, 0, none⟩)]] w fun e w' => ∃ (g' c' : Nat), e = .returned (.slice (some ⟨g', 0, none⟩) k c') ∧ Oj w' base (some ⟨g', 0, none⟩) k c' (ofN (firstBest (lenR b ps) Ls)) ∧ Below w.heap.size w w' := by
  obtain ⟨q, rfl⟩ : ∃ q, N = q + 1 := ⟨N - 1, by omega⟩
  have HLN := Lib.hid hr.len
  have hcap := hr.cap
  obtain ⟨ad, g0, c0, L0, rfl, hab, hal, hc0, hL0, ho0⟩ := hr.at_ hN
  rw [addr_zero] at hc0
  have HLs : Hid (Ls.length = q + 1) := Lib.hid (by rw [← HLN.out, List.length_map])
  obtain ⟨l0, hl0⟩ : ∃ l0, Ls[0]? = some l0 := ⟨_, List.getElem?_eq_getElem (by rw [HLs.out]; exact hN)⟩
  have HE0 : Hid (L0 = ofN l0) := Lib.hid (by have := hL0.out; rw [List.getElem?_map, hl0] at this; exact (Option.some.inj this).symm)
  have HF1 : Hid (firstBest (lenR b ps) (Ls.take 1) = l0) := Lib.hid (by rw [take_snoc hl0]; simp [firstBest])
  rw [HE0.out] at ho0
  clear hl0 hL0 HE0
  by_cases hC : C = 1
  · obtain rfl : q = 0 := by omega
    have HF2 : Hid (firstBest (lenR b ps) Ls = l0) := Lib.hid (by rw [← HF1.out, List.take_of_length_le (by rw [HLs.out]; omega)])
    subst hC
    have ho02 : Oj w base (some ⟨g0, 0, none⟩) k c0 (ofN (firstBest (lenR b ps) Ls)) := by rw [HF2.out]; exact ho0
    have HOO := Lib.hid ho02
    clear ho0 ho02 hcap
    go_enter Try.func105, Try.ntmps105
    go_wp2
    refine wp_loop_rounds 1 ?_
    rw [rounds_succ]
    go_wp2
    go_ret
    exact ⟨g0, c0, rfl, HOO.out, Below.refl _ _⟩
  · have hC1 : 1 < C := by omega
    go_enter Try.func105, Try.ntmps105
    go_wp2
    go_loopw [5, 14] (fun o i wr => ∃ (j g' c' : Nat), j ≤ q ∧ i = .int .i64 j ∧ o = .slice (some ⟨g', 0, none⟩) k c' ∧ Oj wr base (some ⟨g', 0, none⟩) k c' (ofN (firstBest (lenR b ps) (Ls.take (j + 1)))) ∧ Below w.heap.size w wr) (fun _ i _ => q - (intOf i).toNat)
    case atStart => exact ⟨0, g0, c0, Nat.zero_le _, rfl, rfl, by rw [HF1.out]; exact ho0, Below.refl _ _⟩
    case round =>
      obtain ⟨j, g1, c1, hj, rfl, rfl, ho1, hb⟩ := hrel
      by_cases hlt : j < q
      · obtain ⟨ad', g2, c2, L2, hA, _, _, hc2, hL2, ho2⟩ := (hr.below hb).at_ (i := j + 1) (by omega)
        obtain rfl : ad = ad' := Option.some.inj hA
        obtain ⟨l2, hl2⟩ : ∃ l2, Ls[j + 1]? = some l2 := ⟨_, List.getElem?_eq_getElem (by rw [HLs.out]; omega)⟩
        have HE2 : Hid (L2 = ofN l2) := Lib.hid (by have := hL2.out; rw [List.getElem?_map, hl2] at this; exact (Option.some.inj this).symm)
        rw [HE2.out] at ho2
        obtain ⟨l1, HL1⟩ : ∃ l1, Hid (firstBest (lenR b ps) (Ls.take (j + 1)) = l1) := ⟨_, Lib.hid rfl⟩
        have hne : Ls.take (j + 1) ≠ [] := take_ne (by omega) (by rw [HLs.out]; omega)
        have HS : Hid (firstBest (lenR b ps) (Ls.take (j + 1 + 1)) = if lenR b ps l2 < lenR b ps l1 then l2 else l1) := Lib.hid (by rw [take_snoc hl2, firstBest_snoc _ hne, HL1.out])
        have HA2 : Hid (∀ i ∈ l2, i < n) := Lib.hid (HA.out l2 (List.mem_of_getElem? hl2))
        have HA1 : Hid (∀ i ∈ l1, i < n) := Lib.hid (HA.out l1 (by rw [← HL1.out]; exact List.mem_of_mem_take (firstBest_mem hne).1))
        rw [HL1.out] at ho1
        have hc2a : wr.cell? (Addr.add ⟨ad.block, ad.off + 1, none⟩ j) = some (.slice (some ⟨g2, 0, none⟩) k c2) := by rw [add_off1]; exact hc2
        have hc2b : wr.cell? ⟨ad.block, ad.off + 1 + j, none⟩ = some (.slice (some ⟨g2, 0, none⟩) k c2) := by rw [← add_succ]; exact hc2
        obtain ⟨r, HR⟩ : ∃ r, Hid (decide (lenR b ps l2 < lenR b ps l1) = r) := ⟨_, Lib.hid rfl⟩
        clear hne hl2 hL2 HE2
        have hcall := fShorter bx g n c A b ps wr (hbx.below hb hbx.lt) ((hw.below hb).more hb.size) HP (some ⟨g2, 0, none⟩) (some ⟨g1, 0, none⟩) k c2 c1 l2 l1 ho2.ri ho1.ri hk hk0 HA2 HA1
        rw [HR.out] at hcall
        have HCALL := Lib.hid hcall
        clear hcall
        cases r
        · have HS2 : Hid (firstBest (lenR b ps) (Ls.take (j + 1 + 1)) = l1) := Lib.hid (by rw [HS.out, if_neg (of_decide_eq_false HR.out)])
          go_wp2_with fail
          refine HCALL.out.mono ?_
          rintro e w2 ⟨rfl, hb2⟩
          go_wp2
          go_roundw
          case rel => exact ⟨j + 1, g1, c1, by omega, by go_num, rfl, by rw [HS2.out]; exact ho1.below hb2, hb.trans (hb2.mono hb.size)⟩
          case measure => simp [intOf]; omega
        · have HS2 : Hid (firstBest (lenR b ps) (Ls.take (j + 1 + 1)) = l2) := Lib.hid (by rw [HS.out, if_pos (of_decide_eq_true HR.out)])
          go_wp2_with fail
          refine HCALL.out.mono ?_
          rintro e w2 ⟨rfl, hb2⟩
          go_wp2
          go_roundw
          case rel => exact ⟨j + 1, g2, c2, by omega, by go_num, rfl, by rw [HS2.out]; exact ho2.below hb2, hb.trans (hb2.mono hb.size)⟩
          case measure => simp [intOf]; omega
      · obtain rfl : j = q := by omega
        have HF : Hid (firstBest (lenR b ps) (Ls.take (j + 1)) = firstBest (lenR b ps) Ls) := Lib.hid (by rw [List.take_of_length_le (by rw [HLs.out]; omega)])
        rw [HF.out] at ho1
        go_wp2
        go_ret
        exact ⟨g1, c1, rfl, ho1, hb⟩

set_option maxRecDepth 100000 in
set_option maxHeartbeats 1000000 in
theorem fShort_err (b : Int) (A : Option Addr) (n c : Nat) (ps : List (Int × Int)) (w : World) (hx : Rp w w.heap.size A n ps) (hn : n ≤ 1048576) (q : Int) (HP : Hid (checkPier b ps = q)) (hq : ¬ q = 0) :
    Calls Try.prog 68 #[.agg #[.int .i64 b, .slice A n c]] w (RetJII w [] 0 q) := by
  have hbk0 := Bk.new w 24 #[.int .i64 b, .slice A n c]
  have hc0 : (w.alloc (.cells #[.int .i64 b, .slice A n c] 24)).cell? ⟨w.heap.size, 0, none⟩ = some (.int .i64 b) := hbk0.cell 0
  have hc1 : (w.alloc (.cells #[.int .i64 b, .slice A n c] 24)).cell? ⟨w.heap.size, 1, none⟩ = some (.slice A n c) := hbk0.cell 1
  have hb0 : Below w.heap.size w (w.alloc (.cells #[.int .i64 b, .slice A n c] 24)) := (Below.refl _ w).alloc (Nat.le_refl _) _
  have hx0 := hx.next hb0 (Nat.le_refl _) hb0.size
  go_enter Try.func68, Try.ntmps68
  go_wp2_with fail
  refine (fOpen_err b A n c ps _ hx0 hn q HP hq).mono ?_
  rintro e w1 ⟨rfl, hb⟩
  go_wp2
  go_ret3
  exact ⟨none, 0, 0, rfl, Oj.nil_ _ _, (hb0.trans (hb.mono (by simp))).alloc (by have := hb.size; simp at this; omega) _⟩

/-- Those of some rounds that are in time. -/
def goodOf (b : Int) (ps : List (Int × Int)) (Ls : List (List Nat)) : List (List Nat) := Ls.filter (inTimeB b ps)
set_option maxRecDepth 100000 in
set_option maxHeartbeats 4000000 in
theorem fShort_ok (b : Int) (A : Option Addr) (n c : Nat) (ps : List (Int × Int)) (w : World) (hx : Rp w w.heap.size A n ps) (hn : n ≤ 1048576) (hc : n ≤ c) (HP : Hid (Pier b ps)) (v : List Nat × Int × Int)
    (HV : Hid ((if goodR b ps = [] then ([], 0, 12) else (roundOf b ps, lenR b ps (roundOf b ps), 0)) = v)) :
    Calls Try.prog 68 #[.agg #[.int .i64 b, .slice A n c]] w (RetJII w (ofN v.1) v.2.1 v.2.2) := by
  have HCP : Hid (checkPier b ps = 0) := Lib.hid (checkPier_ok.2 HP.out)
  have HLN := Lib.hid hx.len
  have hn10 : n ≤ 10 := by have := HP.out.hi; have := HLN.out; omega
  have hn0 : 0 < n := by have := HP.out.lo; have := HLN.out; omega
  have hbk0 := Bk.new w 24 #[.int .i64 b, .slice A n c]
  have hc0 : (w.alloc (.cells #[.int .i64 b, .slice A n c] 24)).cell? ⟨w.heap.size, 0, none⟩ = some (.int .i64 b) := hbk0.cell 0
  have hc1 : (w.alloc (.cells #[.int .i64 b, .slice A n c] 24)).cell? ⟨w.heap.size, 1, none⟩ = some (.slice A n c) := hbk0.cell 1
  have hb0 : Below w.heap.size w (w.alloc (.cells #[.int .i64 b, .slice A n c] 24)) := (Below.refl _ w).alloc (Nat.le_refl _) _
  have hx0 := hx.next hb0 (Nat.le_refl _) hb0.size
  have hmf : ∀ (fn : Fn) (first cap : Array Value) (w : World), (Instr.makeFunc fn first cap).run Try.prog w = .ok (.func fn first cap) w := fun _ _ _ _ => rfl
  refine (callsIn_wide (n := 5)).1 ?_
  refine callsIn_of_wp_marks Try.func68 rfl trivial ?_ rfl
  simp only [Try.ntmps68, List.size_toArray, List.length_cons, List.length_nil, Nat.reduceAdd, Nat.reduceSub, Array.replicate_succ, Array.replicate_zero, List.push_toArray, List.append_toArray, List.nil_append, List.cons_append]
  refine wpIn_wide.2 ?_
  go_wp2_with fail
  refine (fOpen_ok b A n c ps _ hx0 hn hc HCP).mono ?_
  rintro e w1 ⟨g, rfl, hw, hg, hb⟩
  have hb1 : Below w.heap.size w w1 := hb0.trans (hb.mono (by simp))
  clear hbk0 hc0 hc1 hb0 hx0 hb
  go_wp2_with fail
  refine (dRounds _ ⟨_, rfl⟩ _).mono ?_
  rintro e w' ⟨rfl, rfl⟩
  have e1 := ((Bk.new w1 79 #[.pointer (some ⟨g, 0, none⟩)]).alloc (.cells #[.slice none 0 0] 61)).alloc (.cells #[.pointer (some ⟨g, 0, none⟩)] 79)
  have e2 := (Bk.new (w1.alloc (.cells #[.pointer (some ⟨g, 0, none⟩)] 79)) 61 #[.slice none 0 0]).alloc (.cells #[.pointer (some ⟨g, 0, none⟩)] 79)
  have e3 := Bk.new ((w1.alloc (.cells #[.pointer (some ⟨g, 0, none⟩)] 79)).alloc (.cells #[.slice none 0 0] 61)) 79 #[.pointer (some ⟨g, 0, none⟩)]
  have hbW : Below w1.heap.size w1 (((w1.alloc (.cells #[.pointer (some ⟨g, 0, none⟩)] 79)).alloc (.cells #[.slice none 0 0] 61)).alloc (.cells #[.pointer (some ⟨g, 0, none⟩)] 79)) := (((Below.refl _ w1).alloc (Nat.le_refl _) _).alloc (by simp) _).alloc (by simp; omega) _
  simp only [World.size_alloc] at e1 e2 e3 ⊢
  obtain ⟨W0, hW0⟩ : ∃ W0, (((w1.alloc (.cells #[.pointer (some ⟨g, 0, none⟩)] 79)).alloc (.cells #[.slice none 0 0] 61)).alloc (.cells #[.pointer (some ⟨g, 0, none⟩)] 79)) = W0 := ⟨_, rfl⟩
  have hs0 : w1.heap.size + 3 = W0.heap.size := by rw [← hW0]; simp
  rw [hW0] at e1 e2 e3 hbW ⊢
  clear hW0
  have HS0 := Lib.hid hs0
  clear hs0
  go_wp2_with fail
  refine rounds_range (w1.heap.size + 1 + 1) g n c w1.heap.size A b ps rfl HP e3 (hw.below hbW) (by have := HS0.out; omega)
    (fun pre W => Bk W w1.heap.size 79 #[.pointer (some ⟨g, 0, none⟩)] ∧ (∃ (G : Option Addr) (C : Nat), Bk W (w1.heap.size + 1) 61 #[.slice G (goodOf b ps (pre.map El.l)).length C] ∧ RRj W W0.heap.size G (goodOf b ps (pre.map El.l)).length C n ((goodOf b ps (pre.map El.l)).map ofN)) ∧ Below w1.heap.size w1 W ∧ W0.heap.size ≤ W.heap.size)
    (fun _ _ _ => False) ?hI ?hIx ⟨e1, ⟨none, 0, e2, RRj.nil_ _ _ _⟩, hbW, Nat.le_refl _⟩ ?a1 ?hassign ?hbody ?hdone ?hstop
  case hI =>
    intro s A' C' row hs hg' hr
    obtain ⟨h1, ⟨G, C, h2, h3⟩, h4, h5⟩ := hs
    exact ⟨Bk.from_ (β := Unit) _ _ _ _ () A' C' row h1 hg' hr, ⟨G, C, Bk.from_ (β := Unit) _ _ _ _ () A' C' row h2 hg' hr, RRj.from_ (β := Unit) _ _ _ _ _ _ _ () A' C' row h3 hg' hr⟩, below_from (β := Unit) (by have := HS0.out; omega) (Nat.le_refl _) () A' C' row h4 hg' hr, Nat.le_trans h5 hg'.size⟩
  case hIx => exact fun _ _ _ _ _ h _ _ => h
  case hassign =>
    intro l x W K hK
    gi_wp2
    exact hK
  case hbody =>
    rintro l pre ⟨xa, xc, xl⟩ W ⟨h1, ⟨G, C, h2, h4⟩, h3, hsW⟩ ⟨ho, hxL⟩ hpre
    dsimp only at ho hxL ⊢
    have c1 : W.cell? ⟨w1.heap.size, 0, none⟩ = some (.pointer (some ⟨g, 0, none⟩)) := h1.cell 0
    have hxm := allR_iff.1 hxL
    have hwW := (hw.below h3).more h3.size
    have hlen : xl.length = n := by have := HLN.out; omega
    have HALL : Hid (∀ i ∈ xl, i < n) := Lib.hid (by rw [← HLN.out]; exact hxm.2.2)
    have HSN : Hid (goodOf b ps ((pre ++ [(⟨xa, xc, xl⟩ : El)]).map El.l) = goodOf b ps (pre.map El.l) ++ if inTimeB b ps xl then [xl] else []) := Lib.hid (by
      unfold goodOf
      rw [List.map_append, List.filter_append]
      congr 1
      cases h : inTimeB b ps xl <;> simp [h])
    have hgN : (goodOf b ps (pre.map El.l)).length ≤ pre.length := by
      unfold goodOf
      exact Nat.le_trans (List.length_filter_le _ _) (by rw [List.length_map]; exact Nat.le_refl _)
    have hm252 := allR_many HP.out
    obtain ⟨M, HM⟩ : ∃ M, Hid (goodOf b ps (pre.map El.l) = M) := ⟨_, Lib.hid rfl⟩
    obtain ⟨m, HML⟩ : ∃ m, Hid (M.length = m) := ⟨_, Lib.hid rfl⟩
    rw [HM.out] at h2 h4 hgN HSN
    rw [HML.out] at h2 h4 hgN
    have hm : m ≤ 252 := by omega
    rw [hlen] at ho ⊢
    have hr := ho.ri
    obtain ⟨gx, rfl, hgx1, hgx2⟩ := Oj.row ho hn0
    clear hgN hpre hm252 hxm hxL hlen
    have hcall := dInTime g n c A b ps _ hwW HP (some ⟨gx, 0, none⟩) n xc xl hr hn10 HALL
    cases hit : inTimeB b ps xl
    · have HSN2 : Hid (goodOf b ps ((pre ++ [(⟨some ⟨gx, 0, none⟩, xc, xl⟩ : El)]).map El.l) = M) := Lib.hid (by rw [HSN.out, hit]; simp)
      rw [hit] at hcall
      have HCALL := Lib.hid hcall
      clear hit hcall
      gi_wp2_with fail
      refine ⟨trivial, ?_⟩
      refine (CallsIn.inRound l (callsIn_wide.2 HCALL.out)).mono ?_
      rintro e w2 ⟨rfl, hb2⟩
      gi_wp2_with fail
      have hch : Chg (fun _ => False) W w2 := (Chg.refl _ W).below hb2 (Nat.le_refl _)
      refine ⟨hch.keeps _ (fun _ h => h.elim), hch.kr (fun _ h => h.elim) h3.size (fun _ _ h => h.elim), h1.below hb2 h1.lt, ?_, h3.trans (hb2.mono h3.size), Nat.le_trans hsW hb2.size⟩
      rw [HSN2.out]
      exact ⟨G, C, by rw [HML.out]; exact h2.below hb2 h2.lt, by rw [HML.out]; exact h4.below hb2⟩
    · have HSN2 : Hid (goodOf b ps ((pre ++ [(⟨some ⟨gx, 0, none⟩, xc, xl⟩ : El)]).map El.l) = M ++ [xl]) := Lib.hid (by rw [HSN.out, hit]; simp)
      rw [hit] at hcall
      have HCALL := Lib.hid hcall
      clear hit hcall
      gi_wp2_with fail
      refine ⟨trivial, ?_⟩
      refine (CallsIn.inRound l (callsIn_wide.2 HCALL.out)).mono ?_
      rintro e w2 ⟨rfl, hb2⟩
      have y2 := h2.below hb2 h2.lt
      have y4 := h4.below hb2
      have yo := (ho.below hb2)
      have x2 : w2.cell? ⟨w1.heap.size + 1, 0, none⟩ = some (.slice G m C) := y2.cell 0
      gi_wp2_with (refine push_rowj_in rfl (.tmp 24) (.tmp 26) rfl W0.heap.size G m C n (M.map ofN) rfl (y4.alloc _) ⟨w2.heap.size, 0, none⟩ 1 gx xc (ofN xl) rfl (cell_new1 w2 _ _) (yo.alloc _) (by omega) (by have := hb2.size; simp; omega) ?_; intro g3 cap3 w3 hr3 hg3; have z2 := (y2.alloc (.cells #[.slice (some ⟨gx, 0, none⟩) n xc] 25)).grown hg3 (y4.bk_ne y2 (by decide)); have zc : w3.cell? ⟨w1.heap.size + 1, 0, none⟩ = some (.slice G m C) := z2.cell 0; have zf := z2.frozen 0)
      have hch : Chg (fun k => k = w1.heap.size + 1 ∨ G.map Addr.block = some k) W (w3.setCell ⟨w1.heap.size + 1, 0, none⟩ (.slice (some ⟨g3, 0, none⟩) (m + 1) cap3)) :=
        Chg.setCell (p := ⟨w1.heap.size + 1, 0, none⟩) ((((Chg.refl _ W).below hb2 (Nat.le_refl _)).alloc _).grown hg3 (fun r e => .inl (.inr e))) (.inl (.inl rfl)) _
      have HML2 : Hid ((M ++ [xl]).length = m + 1) := Lib.hid (by rw [List.length_append, HML.out]; rfl)
      refine ⟨hch.keeps _ (fun k e => ?_), hch.kr (fun k e => ?_) h3.size (fun k cs e hB hbk => ?_), hch.bk h1 ?_, ?_, h3.trans (hch.toBelow (fun k e => ?_) h3.size), Nat.le_trans hsW hch.size⟩
      · rcases e with rfl | e
        · exact h2.cells
        · exact h4.cells e
      · rcases e with rfl | e
        · omega
        · have := (h4.lt k e).1; have := HS0.out; omega
      · rcases e with rfl | e
        · have := HS0.out; omega
        · exact h4.bk_ne hbk (by decide) e.symm
      · rintro (e | e)
        · omega
        · exact h4.bk_ne h1 (by decide) e.symm
      · rw [HSN2.out]
        exact ⟨some ⟨g3, 0, none⟩, cap3, by rw [HML2.out]; exact z2.set_ 0 _, by rw [HML2.out, List.map_append]; exact hr3.setOther (p := ⟨w1.heap.size + 1, 0, none⟩) z2 (by decide) (by decide) _⟩
      · rcases e with rfl | e
        · omega
        · have := (h4.lt k e).1; have := HS0.out; omega
  case hdone =>
    rintro Dd xs W hD hxs ⟨h1, ⟨G, C, h2, h4⟩, h3, _⟩ hDW
    have HXS : Hid (goodOf b ps (xs.map El.l) = goodR b ps) := Lib.hid (by rw [hxs]; rfl)
    have hl252 : (goodR b ps).length ≤ 252 := Nat.le_trans (List.length_filter_le _ _) (allR_many HP.out)
    have HEM : Hid (goodR b ps = [] ↔ (goodR b ps).length = 0) := Lib.hid List.length_eq_zero_iff.symm
    have HALLG : Hid (∀ l ∈ goodR b ps, ∀ i ∈ l, i < n) := Lib.hid fun l hl => by
      have := (allR_iff.1 (mem_goodR.1 hl).1).2.2
      rwa [HLN.out] at this
    have HBM : Hid (goodR b ps ≠ [] → roundOf b ps ∈ goodR b ps) := Lib.hid fun h => (firstBest_mem h).1
    rw [HXS.out] at h2 h4
    have hV := HV.out
    obtain ⟨R, HRR⟩ : ∃ R, Hid (roundOf b ps = R) := ⟨_, Lib.hid rfl⟩
    have HRF : Hid (firstBest (lenR b ps) (goodR b ps) = R) := Lib.hid HRR.out
    obtain ⟨M, HM⟩ : ∃ M, Hid (goodR b ps = M) := ⟨_, Lib.hid rfl⟩
    rw [HRR.out] at hV HBM
    rw [HM.out] at h2 h4 hl252 HEM hV HALLG HBM HRF
    obtain ⟨m, HML⟩ : ∃ m, Hid (M.length = m) := ⟨_, Lib.hid rfl⟩
    rw [HML.out] at h2 h4 hl252 HEM
    have HV2 := Lib.hid hV
    clear hV
    have c5 : W.cell? ⟨w1.heap.size, 0, none⟩ = some (.pointer (some ⟨g, 0, none⟩)) := h1.cell 0
    have c7 : W.cell? ⟨w1.heap.size + 1, 0, none⟩ = some (.slice G m C) := h2.cell 0
    have hbel : Below w.heap.size w W := hb1.trans (h3.mono hb1.size)
    have hDb : w.heap.size ≤ Dd := by have := HS0.out; have := hb1.size; omega
    have HD := Lib.hid hDW
    clear hDW hxs
    by_cases hm0 : m = 0
    · subst hm0
      have HE : Hid (v = ([], 0, 12)) := Lib.hid (by rw [← HV2.out, if_pos (HEM.out.2 rfl)])
      go_wp2
      refine ⟨by simp, .inl ⟨_, _, rfl, run_takeDeferred HD.out, ?_⟩⟩
      refine ⟨_, results_tmp3 rfl _ _ _, none, 0, 0, by rw [HE.out]; rfl, by rw [HE.out]; exact Oj.nil_ _ _, ?_⟩
      exact hbel.grown (grownBy_putObj' W Dd (.deferred none)) hbel.size (fun k e => by cases e; exact hDb)
    · have hne : M ≠ [] := fun e => hm0 (HEM.out.1 e)
      have HE : Hid (v = (R, lenR b ps R, 0)) := Lib.hid (by rw [← HV2.out, if_neg hne])
      have HAR : Hid (∀ i ∈ R, i < n) := Lib.hid (HALLG.out R (HBM.out hne))
      obtain ⟨z, HZ⟩ : ∃ z, Hid (lenR b ps R = z) := ⟨_, Lib.hid rfl⟩
      have hm1 : 0 < m := by omega
      clear hne
      have hwW := (hw.below h3).more h3.size
      go_wp2_with fail
      refine (lBest w1.heap.size g n c A b ps W h1 hwW HP W0.heap.size m C n G M h4 hm1 (by omega) hn10 hn0 HALLG).mono ?_
      rintro e w2 ⟨g', c', rfl, ho2, hb2⟩
      rw [HRF.out] at ho2
      have d5 : w2.cell? ⟨w1.heap.size, 0, none⟩ = some (.pointer (some ⟨g, 0, none⟩)) := (h1.below hb2 h1.lt).cell 0
      have hw2 := (hwW.below hb2).more hb2.size
      go_wp2_with fail
      refine (dLength g n c A b ps w2 hw2 HP (some ⟨g', 0, none⟩) n c' R ho2.ri hn10 hn0 HAR).mono ?_
      rintro e w3 ⟨rfl, hb3⟩
      rw [HZ.out]
      have ho3 := ho2.below hb3
      have hbel3 : Below w.heap.size w w3 := (hbel.trans (hb2.mono hbel.size)).trans (hb3.mono (Nat.le_trans hbel.size hb2.size))
      have hD3 : w3.heap[Dd]? = some (.deferred (some [])) := by
        have hdl : Dd < W.heap.size := (Array.getElem?_eq_some_iff.1 HD.out).1
        rw [hb3.block Dd (Nat.lt_of_lt_of_le hdl hb2.size), hb2.block Dd hdl]
        exact HD.out
      have HD3 := Lib.hid hD3
      clear hD3
      go_wp2
      refine ⟨by simp, .inl ⟨_, _, rfl, run_takeDeferred HD3.out, ?_⟩⟩
      refine ⟨_, results_tmp3 rfl _ _ _, some ⟨g', 0, none⟩, n, c', by rw [HE.out, HZ.out]; rfl, ?_, ?_⟩
      · rw [HE.out]
        refine Oj.base (Oj.from_ (β := Unit) w.heap.size _ _ _ _ _ () w3 _ _ ho3 (grownBy_putObj' w3 Dd (.deferred none)) (fun r e => by cases e; exact ⟨hDb, _, HD3.out, rfl⟩)) (by have := HS0.out; have := hb1.size; omega)
      · exact hbel3.grown (grownBy_putObj' w3 Dd (.deferred none)) hbel3.size (fun k e => by cases e; exact hDb)
  case hstop => exact fun _ _ _ _ _ _ h _ => h.elim
end Go.Proofs.Ytaekjnjignlmoaa
