/-
  The program: 'Bounds'. Printed by gen_bn.py.
-/
import Derived.Test.YtaekjnjignlmoaaCb
import Derived.Test.YtaekjnjignlmoaaBm
import Derived.Test.YtaekjnjignlmoaaSq
import Derived.Laws.EntriesVeiled
namespace Go.Proofs.Ytaekjnjignlmoaa
open Go.RowKit Go.Shelf Go.Maps
attribute [local go_sem] Oper.semAt_some

/-- What a call that returns bounds and an error comes to. -/
def RetBE (w : World) (N m : Nat) (F : Nat → Nat → Nat → Int) (r : Int) (e : Ending) (w' : World) : Prop := ∃ (O : Nat) (ks : List Nat), e = .returned (.tuple #[.slice (some ⟨O, 0, none⟩) N N, .int .i64 r]) ∧ OB w' O N m ks F ∧ ks.length = N ∧ w.heap.size ≤ O ∧ (∀ k ∈ ks, w.heap.size ≤ k) ∧ Below w.heap.size w w'

/-- The bounds behind some ends. -/
def fillF (f : Int × Int × Int → Option Int) (L : List T3) : Nat → Nat → Nat → Int := L.foldl (fun F x => updN F x.1 x.2.1 x.2.2 (numF f x.1 x.2.1 x.2.2)) (fun _ _ _ => 0)
theorem fillF_snoc (f : Int × Int × Int → Option Int) (L : List T3) (x : T3) : fillF f (L ++ [x]) = updN (fillF f L) x.1 x.2.1 x.2.2 (numF f x.1 x.2.1 x.2.2) := by unfold fillF; rw [List.foldl_append]; rfl
theorem updN_updN (F : Nat → Nat → Nat → Int) (x y e : Nat) (u v : Int) : updN (updN F x y e u) x y e v = updN F x y e v := by
  funext x' y' e'
  unfold updN
  split <;> simp_all
theorem fillF_at (f : Int × Int × Int → Option Int) : ∀ (L : List T3) (G : Nat → Nat → Nat → Int) (x y e : Nat), (L.foldl (fun F x => updN F x.1 x.2.1 x.2.2 (numF f x.1 x.2.1 x.2.2)) G) x y e = if (x, y, e) ∈ L then numF f x y e else G x y e := by
  intro L
  induction L with
  | nil => intro G x y e; simp
  | cons z L ih =>
    intro G x y e
    rw [List.foldl_cons, ih]
    by_cases h : (x, y, e) ∈ L
    · rw [if_pos h, if_pos (List.mem_cons_of_mem _ h)]
    · rw [if_neg h]
      unfold updN
      by_cases hz : x = z.1 ∧ y = z.2.1 ∧ e = z.2.2
      · obtain ⟨rfl, rfl, rfl⟩ := hz
        rw [if_pos ⟨rfl, rfl, rfl⟩, if_pos (List.mem_cons_self ..)]
      · rw [if_neg hz, if_neg (fun hm => ?_)]
        rcases List.mem_cons.1 hm with hm | hm
        · subst hm
          exact hz ⟨rfl, rfl, rfl⟩
        · exact h hm
theorem fillF_ends (b : Int) (ps : List (Int × Int)) (x y e : Nat) (h : EndIn b ps (x, y, e)) : fillF (foldF b ps (endsL b ps)) (endsL b ps) x y e = early b ps x y e := by
  unfold fillF
  rw [fillF_at, if_pos (mem_endsL.2 h)]
  have h1 := found_ends b ps (x, y, e)
  have h2 : -1 ≤ early b ps x y e := early_ge h.2.2
  unfold numF
  show (foldF b ps (endsL b ps) (castT (x, y, e))).getD (-1) = _
  rw [h1]
  by_cases h0 : 0 ≤ earlyT b ps (x, y, e)
  · rw [if_pos ⟨mem_endsL.2 h, h0⟩]
    rfl
  · rw [if_neg (fun e => h0 e.2)]
    have h3 : ¬ 0 ≤ early b ps x y e := h0
    show (-1 : Int) = _
    omega
theorem ob_from {β : Type} {O N m : Nat} {ks : List Nat} (B : Nat) (F : β → Nat → Nat → Nat → Int) : OwnFrom B (fun (s : β) W => OB W O N m ks (F s)) := fun s W W' row hs hg hr => by
  have key : ∀ (k : Nat) (t : TypeId) (cs : Array Value), Bk W k t cs → W'.heap[k]? = W.heap[k]? := fun k t cs hk => hg.block k hk.lt (fun e => by
    obtain ⟨_, o, ho, hc⟩ := hr k e.symm
    unfold Bk at hk
    rw [hk] at ho
    cases ho
    cases hc)
  refine hs.same (key _ _ _ hs.out) (fun k hk => ?_)
  obtain ⟨i, hi, he⟩ := List.getElem_of_mem hk
  exact key _ _ _ (hs.rows i k (by rw [List.getElem?_eq_getElem hi, he]))

set_option maxHeartbeats 400000 in
theorem fBounds_err (b : Int) (A : Option Addr) (n c : Nat) (ps : List (Int × Int)) (w : World) (hx : Rp w w.heap.size A n ps) (hn : n ≤ 1048576) (q : Int) (HP : Hid (checkPier b ps = q)) (hq : ¬ q = 0) :
    Calls Try.prog 38 #[.agg #[.int .i64 b, .slice A n c]] w fun e w' => e = .returned (.tuple #[.slice none 0 0, .int .i64 q]) ∧ Below w.heap.size w w' := by
  have hbk0 := Bk.new w 24 #[.int .i64 b, .slice A n c]
  have hc0 := hbk0.cell 0
  have hc1 := hbk0.cell 1
  have hb0 : Below w.heap.size w (w.alloc (.cells #[.int .i64 b, .slice A n c] 24)) := (Below.refl _ w).alloc (Nat.le_refl _) _
  have hx0 := hx.next hb0 (Nat.le_refl _) hb0.size
  go_enter Try.func38, Try.ntmps38
  go_wp2_with fail
  refine (fOpen_err b A n c ps _ hx0 hn q HP hq).mono ?_
  rintro e w1 ⟨rfl, hb⟩
  have hb1 : Below w.heap.size w w1 := hb0.trans (hb.mono (by simp))
  clear hb hb0 hx0 hbk0 hc0 hc1
  go_wp2
  go_ret2
  exact ⟨rfl, hb1⟩

set_option maxRecDepth 100000 in
set_option maxHeartbeats 4000000 in
theorem fBounds_ok (b : Int) (A : Option Addr) (n c : Nat) (ps : List (Int × Int)) (w : World) (hx : Rp w w.heap.size A n ps) (hn : n ≤ 1048576) (hc : n ≤ c) (HP : Hid (Pier b ps)) (k1 m : Nat) (HK1 : Hid (lefts b ps + 1 = k1)) (HM : Hid (ps.length - lefts b ps + 1 = m)) :
    Calls Try.prog 38 #[.agg #[.int .i64 b, .slice A n c]] w fun e w' => ∃ F, RetBE w k1 m F 0 e w' ∧ ∀ x y e : Nat, x < k1 → y < m → e < 2 → F x y e = early b ps x y e := by
  have HCP : Hid (checkPier b ps = 0) := Lib.hid (checkPier_ok.2 HP.out)
  have HLN := Lib.hid hx.len
  have hn10 : n ≤ 10 := by have := HP.out.hi; have := HLN.out; omega
  have hq := lefts_le b ps
  rw [HLN.out] at hq HM
  obtain ⟨q, HQ⟩ : ∃ q, Hid (lefts b ps = q) := ⟨_, Lib.hid rfl⟩
  rw [HQ.out] at hq HK1 HM
  obtain ⟨r, HR⟩ : ∃ r, Hid (n - q = r) := ⟨_, Lib.hid rfl⟩
  rw [HR.out] at HM
  have hk1 : k1 ≤ 1000 := by have := HK1.out; omega
  have hm1 : m ≤ 1000 := by have := HM.out; have := HR.out; omega
  have hw1 : IntKind.i64.wrap ((q : Int) + 1) = (k1 : Int) := by rw [IntWalk.i64_in _ (by omega)]; have := HK1.out; omega
  have hw2 : IntKind.i64.wrap ((n : Int) - (q : Int)) = (r : Int) := by rw [IntWalk.i64_in _ (by omega)]; have := HR.out; omega
  have hw3 : IntKind.i64.wrap ((r : Int) + 1) = (m : Int) := by rw [IntWalk.i64_in _ (by have := HR.out; omega)]; have := HM.out; omega
  have hmk := run_rows k1 hk1
  have hmk2 := run_pairs m hm1
  have hmf : ∀ (fn : Fn) (first cap : Array Value) (w : World), (Instr.makeFunc fn first cap).run Try.prog w = .ok (.func fn first cap) w := fun _ _ _ _ => rfl
  have hmix : Try.prog.follows .mixedOrders = true := by kernel_rfl
  have hbk0 := Bk.new w 24 #[.int .i64 b, .slice A n c]
  have hc0 := hbk0.cell 0
  have hc1 := hbk0.cell 1
  have hb0 : Below w.heap.size w (w.alloc (.cells #[.int .i64 b, .slice A n c] 24)) := (Below.refl _ w).alloc (Nat.le_refl _) _
  have hx0 := hx.next hb0 (Nat.le_refl _) hb0.size
  refine (callsIn_wide (n := 5)).1 ?_
  refine callsIn_of_wp_marks Try.func38 rfl trivial ?_ rfl
  simp only [Try.ntmps38, List.size_toArray, List.length_cons, List.length_nil, Nat.reduceAdd, Nat.reduceSub, Array.replicate_succ, Array.replicate_zero, List.push_toArray, List.append_toArray, List.nil_append, List.cons_append]
  refine wpIn_wide.2 ?_
  go_wp2_with fail
  refine (fOpen_ok b A n c ps _ hx0 hn hc HCP).mono ?_
  rintro e w1 ⟨g, rfl, hw, hg, hb⟩
  have hb1 : Below w.heap.size w w1 := hb0.trans (hb.mono (by simp))
  have p0 := hbk0.below hb hbk0.lt
  have cg : w1.cell? ⟨g, 2, none⟩ = some (.int .i64 (q : Int)) := by rw [← HQ.out]; exact hw.c2
  clear hc0 hc1 hx0 hbk0 hb0 hb hg
  obtain ⟨s0, H0⟩ : ∃ s, Hid (w.heap.size = s) := ⟨_, Lib.hid rfl⟩
  rw [H0.out] at p0 ⊢
  have hs0 : s0 < w1.heap.size := p0.lt
  have q0 : OB (w1.alloc (.cells (Array.replicate k1 (Value.slice none 0 0)) 77)) w1.heap.size k1 m [] (fun _ _ _ => 0) := ⟨(Bk.new w1 _ _), Nat.zero_le _, List.nodup_nil, fun i k h => by cases h⟩
  go_wp2
  obtain ⟨O, HO⟩ : ∃ s, Hid (w1.heap.size = s) := ⟨_, Lib.hid rfl⟩
  have q1 := q0.alloc (.cells #[.slice (some ⟨w1.heap.size, 0, none⟩) k1 k1] 47)
  have qb := Bk.new (w1.alloc (.cells (Array.replicate k1 (Value.slice none 0 0)) 77)) 47 #[.slice (some ⟨w1.heap.size, 0, none⟩) k1 k1]
  have hbw := ((Below.refl _ w1).alloc (Nat.le_refl _) (.cells (Array.replicate k1 (Value.slice none 0 0)) 77)).alloc (by simp) (.cells #[.slice (some ⟨w1.heap.size, 0, none⟩) k1 k1] 47)
  simp only [World.size_alloc] at qb ⊢
  rw [HO.out] at q1 qb hs0 hbw ⊢
  obtain ⟨bo, HBO⟩ : ∃ s, Hid (O + 1 = s) := ⟨_, Lib.hid rfl⟩
  rw [HBO.out] at qb ⊢
  clear q0
  go_loopw [28] (fun i wr => ∃ ks : List Nat, ks.length ≤ k1 ∧ i = .int .i64 (ks.length : Int) ∧ OB wr O k1 m ks (fun _ _ _ => 0) ∧ Bk wr bo 47 #[.slice (some ⟨O, 0, none⟩) k1 k1] ∧ (∀ k ∈ ks, O ≤ k ∧ k ≠ bo) ∧ Below O w1 wr) (fun i _ => k1 - (intOf i).toNat)
  case atStart => exact ⟨[], Nat.zero_le _, rfl, q1, qb, fun k h => (by cases h), hbw⟩
  case round =>
    clear q1 qb hbw
    obtain ⟨ks, hks, rfl, hob, hbk, hkO, hbr⟩ := hrel
    obtain ⟨i, HI⟩ : ∃ i, Hid (ks.length = i) := ⟨_, Lib.hid rfl⟩
    rw [HI.out] at hks ⊢
    have hsr : O ≤ wr.heap.size := by have := hbr.size; have := HO.out; omega
    by_cases hlt : i < k1
    · have cb : wr.cell? ⟨bo, 0, none⟩ = some (.slice (some ⟨O, 0, none⟩) k1 k1) := hbk.cell 0
      have cp : wr.cell? ⟨s0, 1, none⟩ = some (.slice A n c) := (hbr.cell (p := ⟨s0, 1, none⟩) hs0).trans (p0.cell 1)
      have cgr : wr.cell? ⟨g, 2, none⟩ = some (.int .i64 (q : Int)) := (hbr.cell (p := ⟨g, 2, none⟩) (by rw [← HO.out]; exact hw.lt)).trans cg
      go_wp2
      refine wp_region_noPanic ?_
      refine wp_region_lastL (fun V => V.cell? ⟨bo, 0, none⟩ = some (.slice (some ⟨O, 0, none⟩) k1 k1) ∧ V.cell? ⟨s0, 1, none⟩ = some (.slice A n c) ∧ V.cell? ⟨g, 2, none⟩ = some (.int .i64 (q : Int))) hmix rfl (by kernel_rfl) ⟨cb, cp, cgr⟩ (fun hS => ?_)
      simp only [List.dropLast_cons_cons, List.dropLast_singleton, List.length_cons, List.length_nil, Nat.reduceAdd]
      refine wpAnyH_take (i := 0) (v := ?_) rfl (by kernel_rfl) (by kernel_rfl) (by kernel_rfl) (fun _ _ _ h => h) (Or.inl ⟨by rfl, ?_⟩) hS ?_
      rotate_left
      · intro w hSw
        (try dsimp only at hSw)
        go_simp
        (try with_reducible rfl)
      try simp (maxSteps := 10000000) only [Act.put, List.setIfInBounds_toArray, List.set_cons_zero, List.set_cons_succ, List.getElem_toArray, List.getElem_cons_zero]
      refine wpAnyH_take (i := 1) (v := ?_) rfl (by kernel_rfl) (by kernel_rfl) (by kernel_rfl) (fun _ _ _ h => h) (Or.inl ⟨by rfl, ?_⟩) hS ?_
      rotate_left
      · intro w hSw
        (try dsimp only at hSw)
        go_simp
        (try with_reducible rfl)
      try simp (maxSteps := 10000000) only [Act.put, List.setIfInBounds_toArray, List.set_cons_zero, List.set_cons_succ, List.getElem_toArray, List.getElem_cons_zero, List.getElem_cons_succ]
      refine wpAnyH_take (i := 2) (v := ?_) rfl (by kernel_rfl) (by kernel_rfl) (by kernel_rfl) (fun _ _ _ h => h) (Or.inl ⟨by rfl, ?_⟩) hS ?_
      rotate_left
      · intro w hSw
        (try dsimp only at hSw)
        go_simp
        (try with_reducible rfl)
      try simp (maxSteps := 10000000) only [Act.put, List.setIfInBounds_toArray, List.set_cons_zero, List.set_cons_succ, List.getElem_toArray, List.getElem_cons_zero, List.getElem_cons_succ]
      refine wpAnyH_take (i := 3) (v := ?_) rfl (by kernel_rfl) (by kernel_rfl) (by kernel_rfl) (fun _ _ _ h => h) (Or.inl ⟨by rfl, ?_⟩) hS ?_
      rotate_left
      · intro w hSw
        (try dsimp only at hSw)
        go_simp
        (try with_reducible rfl)
      try simp (maxSteps := 10000000) only [Act.put, List.setIfInBounds_toArray, List.set_cons_zero, List.set_cons_succ, List.getElem_toArray, List.getElem_cons_zero, List.getElem_cons_succ]
      refine wpAnyH_take (i := 4) (v := ?_) rfl (by kernel_rfl) (by kernel_rfl) (by kernel_rfl) (fun _ _ _ h => h) (Or.inl ⟨by rfl, ?_⟩) hS ?_
      rotate_left
      · intro w hSw
        (try dsimp only at hSw)
        go_simp
        (try with_reducible rfl)
      try simp (maxSteps := 10000000) only [Act.put, List.setIfInBounds_toArray, List.set_cons_zero, List.set_cons_succ, List.getElem_toArray, List.getElem_cons_zero, List.getElem_cons_succ]
      refine wpAnyH_take (i := 5) (v := ?_) rfl (by kernel_rfl) (by kernel_rfl) (by kernel_rfl) (fun _ _ _ h => h) (Or.inl ⟨by rfl, ?_⟩) hS ?_
      rotate_left
      · intro w hSw
        (try dsimp only at hSw)
        go_simp
        (try with_reducible rfl)
      try simp (maxSteps := 10000000) only [Act.put, List.setIfInBounds_toArray, List.set_cons_zero, List.set_cons_succ, List.getElem_toArray, List.getElem_cons_zero, List.getElem_cons_succ]
      refine wpAnyH_take (i := 6) (v := ?_) rfl (by kernel_rfl) (by kernel_rfl) (by kernel_rfl) (fun _ _ _ h => h) (Or.inl ⟨by rfl, ?_⟩) hS ?_
      rotate_left
      · intro w hSw
        (try dsimp only at hSw)
        go_simp
        (try with_reducible rfl)
      try simp (maxSteps := 10000000) only [Act.put, List.setIfInBounds_toArray, List.set_cons_zero, List.set_cons_succ, List.getElem_toArray, List.getElem_cons_zero, List.getElem_cons_succ]
      refine wpAnyH_take (i := 7) (v := ?_) rfl (by kernel_rfl) (by kernel_rfl) (by kernel_rfl) (fun _ _ _ h => h) (Or.inl ⟨by rfl, ?_⟩) hS ?_
      rotate_left
      · intro w hSw
        (try dsimp only at hSw)
        go_simp
        (try with_reducible rfl)
      try simp (maxSteps := 10000000) only [Act.put, List.setIfInBounds_toArray, List.set_cons_zero, List.set_cons_succ, List.getElem_toArray, List.getElem_cons_zero, List.getElem_cons_succ]
      refine wpAnyH_take (i := 8) (v := ?_) rfl (by kernel_rfl) (by kernel_rfl) (by kernel_rfl) (fun _ _ _ h => h) (Or.inl ⟨by rfl, ?_⟩) hS ?_
      rotate_left
      · intro w hSw
        (try dsimp only at hSw)
        go_simp
        (try with_reducible rfl)
      try simp (maxSteps := 10000000) only [Act.put, List.setIfInBounds_toArray, List.set_cons_zero, List.set_cons_succ, List.getElem_toArray, List.getElem_cons_zero, List.getElem_cons_succ]
      refine wpAnyH_take (i := 9) (v := ?_) rfl (by kernel_rfl) (by kernel_rfl) (by kernel_rfl) (fun _ _ _ h => h) (Or.inl ⟨by rfl, ?_⟩) hS ?_
      rotate_left
      · intro w hSw
        (try dsimp only at hSw)
        go_simp
        (try with_reducible rfl)
      try simp (maxSteps := 10000000) only [Act.put, List.setIfInBounds_toArray, List.set_cons_zero, List.set_cons_succ, List.getElem_toArray, List.getElem_cons_zero, List.getElem_cons_succ]
      refine wpAnyH_take (i := 10) (v := ?_) rfl (by kernel_rfl) (by kernel_rfl) (by kernel_rfl) (fun _ _ _ h => h) (Or.inl ⟨by rfl, ?_⟩) hS ?_
      rotate_left
      · intro w hSw
        (try dsimp only at hSw)
        go_simp
        (try with_reducible rfl)
      try simp (maxSteps := 10000000) only [Act.put, List.setIfInBounds_toArray, List.set_cons_zero, List.set_cons_succ, List.getElem_toArray, List.getElem_cons_zero, List.getElem_cons_succ]
      refine wpAnyH_ready (rs := [11]) (by kernel_rfl) (by simp) ?_
      refine AllReadyH.cons rfl (fun K hK => ?_) AllReadyH.nil
      go_simp
      refine hK.out _ _ ⟨cell_old _ cb, cell_old _ cp, cell_old _ cgr⟩ (fun hS => ?_)
      clear hK K
      try simp (maxSteps := 10000000) only [Act.put, List.setIfInBounds_toArray, List.set_cons_zero, List.set_cons_succ, List.getElem_toArray, List.getElem_cons_zero, List.getElem_cons_succ]
      refine wpAnyH_take (i := 12) (v := ?_) rfl (by kernel_rfl) (by kernel_rfl) (by kernel_rfl) (fun _ _ _ h => h) (Or.inl ⟨by rfl, ?_⟩) hS ?_
      rotate_left
      · intro w hSw
        (try dsimp only at hSw)
        go_simp
        (try with_reducible rfl)
      try simp (maxSteps := 10000000) only [Act.put, List.setIfInBounds_toArray, List.set_cons_zero, List.set_cons_succ, List.getElem_toArray, List.getElem_cons_zero, List.getElem_cons_succ]
      refine wpAnyH_done (by kernel_rfl) ?_ _
      have hob2 := hob.alloc (.cells (Array.replicate (m * 2) (Value.int .i64 0)) 76)
      have hof := hob2.out.frozen i
      have hoc := hob2.next HI.out hlt
      unfold lastQ
      go_simp
      refine NoPanic.normal ?_
      have hnk : wr.heap.size ∉ ks := fun h => Nat.lt_irrefl _ (hob.lt.2 _ h)
      have hob3 := hob2.more (by rw [HI.out]; exact hlt) (k := wr.heap.size) (by rw [rowC_zero]; exact Bk.new wr _ _) hnk
      rw [HI.out] at hob3
      have hObo : bo ≠ O := by have := HBO.out; omega
      have hbk3 := (hbk.alloc (.cells (Array.replicate (m * 2) (Value.int .i64 0)) 76)).far (p := ⟨O, i, none⟩) hObo (.slice (some ⟨wr.heap.size, 0, none⟩) m m)
      have hbr3 := below_drewN ((hbr.alloc hsr (.cells (Array.replicate (m * 2) (Value.int .i64 0)) 76)).setCell (p := ⟨O, i, none⟩) (Nat.le_refl _) (.slice (some ⟨wr.heap.size, 0, none⟩) m m)) 1
      have hbol : bo < wr.heap.size := hbk.lt
      have HLEN : Hid ((ks ++ [wr.heap.size]).length = i + 1) := Lib.hid (by rw [List.length_append, HI.out]; rfl)
      clear hoc hof hS
      go_wp2
      go_roundw
      case rel =>
        refine ⟨ks ++ [wr.heap.size], by rw [HLEN.out]; omega, by rw [HLEN.out]; go_num, hob3.drew, hbk3.drew, fun k hk => ?_, hbr3⟩
        rcases List.mem_append.1 hk with h | h
        · exact hkO k h
        · rw [List.mem_singleton.1 h]; exact ⟨hsr, by omega⟩
      case measure => simp [intOf]; omega
    · obtain rfl : i = k1 := by omega
      have hb2 : Below s0 w wr := by
        rw [H0.out] at hb1
        exact hb1.trans (hbr.mono (Nat.le_of_lt hs0))
      have hwr : Wk wr O g A n c b ps := by rw [HO.out] at hw; exact hw.below hbr
      have hcall := dEarliest g n c A b ps wr (hwr.more hsr) HP
      go_wp2_with fail
      refine hcall.mono ?_
      rintro e W2 ⟨mb, N, rfl, hms, hmb, hb3⟩
      clear hcall
      have hsr2 : wr.heap.size ≤ W2.heap.size := hb3.size
      have z1 := ((hob.below hb3).alloc (.cells #[.map (some mb)] 117)).alloc (.cells #[.pointer (some ⟨g, 0, none⟩)] 79)
      have z2 := ((hbk.below hb3 hbk.lt).alloc (.cells #[.map (some mb)] 117)).alloc (.cells #[.pointer (some ⟨g, 0, none⟩)] 79)
      have z3 := (Bk.new W2 117 #[.map (some mb)]).alloc (.cells #[.pointer (some ⟨g, 0, none⟩)] 79)
      have z4 := (hms.alloc (.cells #[.map (some mb)] 117)).alloc (.cells #[.pointer (some ⟨g, 0, none⟩)] 79)
      have z5 := Bk.new (W2.alloc (.cells #[.map (some mb)] 117)) 79 #[.pointer (some ⟨g, 0, none⟩)]
      have hbr5 : Below O w1 ((W2.alloc (.cells #[.map (some mb)] 117)).alloc (.cells #[.pointer (some ⟨g, 0, none⟩)] 79)) := ((hbr.trans (hb3.mono hsr)).alloc (by omega) _).alloc (by simp; omega) _
      have hw5 : Wk ((W2.alloc (.cells #[.map (some mb)] 117)).alloc (.cells #[.pointer (some ⟨g, 0, none⟩)] 79)) O g A n c b ps := by rw [HO.out] at hw; exact hw.below hbr5
      have hmbl := hms.lt
      go_wp2_with fail
      refine (dEnds _ _).mono ?_
      rintro e w' ⟨rfl, rfl⟩
      obtain ⟨tm, HTM⟩ : ∃ s, Hid (W2.heap.size = s) := ⟨_, Lib.hid rfl⟩
      simp only [World.size_alloc] at z5 ⊢
      rw [HTM.out] at z3 z5 hsr2 hmbl ⊢
      obtain ⟨W5, hW5⟩ : ∃ W5, (W2.alloc (.cells #[.map (some mb)] 117)).alloc (.cells #[.pointer (some ⟨g, 0, none⟩)] 79) = W5 := ⟨_, rfl⟩
      have HS5 : Hid (W5.heap.size = tm + 2) := Lib.hid (by rw [← hW5]; simp; rw [HTM.out])
      rw [hW5] at z1 z2 z3 z4 z5 hbr5 hw5 ⊢
      obtain ⟨bx, HBX⟩ : ∃ s, Hid (tm + 1 = s) := ⟨_, Lib.hid rfl⟩
      rw [HBX.out] at z5 ⊢
      have HKS : Hid (∀ k ∈ ks, O ≤ k ∧ k ≠ bo ∧ k < tm) := Lib.hid (fun k hk => ⟨(hkO k hk).1, (hkO k hk).2, Nat.lt_of_lt_of_le (hob.lt.2 k hk) hsr2⟩)
      have HSZ : Hid (W5.heap.size = tm + 2 ∧ bx = tm + 1 ∧ bo < tm ∧ O ≤ W5.heap.size ∧ mb < tm ∧ wr.heap.size ≤ mb) := Lib.hid (by have := HS5.out; have := HBX.out; have := hbk.lt; omega)
      have HWO := HO
      clear hW5 hb3 hob hbk hkO hms hbr hwr hmbl hmb
      obtain ⟨f, HF⟩ : ∃ f, Hid (foldF b ps (endsL b ps) = f) := ⟨_, Lib.hid rfl⟩
      rw [HF.out] at z4
      go_wp2_with fail
      refine ends_range bx g n c O A b ps rfl HP z5 hw5 HSZ.out.2.2.2.1
        (fun pre W => OB W O i m ks (fillF f (pre.map (·.1))) ∧ Bk W bo 47 #[.slice (some ⟨O, 0, none⟩) i i] ∧ Bk W tm 117 #[.map (some mb)] ∧ (mb < W5.heap.size ∧ Ms W mb N f) ∧ Below O w1 W)
        (fun _ _ _ => False) ?hI ?hIx ⟨z1, z2, z3, ⟨by have := HSZ.out; omega, z4⟩, hbr5⟩ ?fa ?hassign ?hbody ?hdone ?hstop
      case hI => exact fun s' A' C row hs hg' hr => ⟨ob_from W5.heap.size (fun pre : List (EndT b ps) => fillF f (pre.map (·.1))) s' A' C row hs.1 hg' hr, Bk.from_ (β := Unit) _ _ _ _ () A' C row hs.2.1 hg' hr, Bk.from_ (β := Unit) _ _ _ _ () A' C row hs.2.2.1 hg' hr, Ms.from_ (β := Unit) W5.heap.size () A' C row hs.2.2.2.1 hg' hr, below_from (β := Unit) (w0 := w1) HSZ.out.2.2.2.1 (Nat.le_of_eq HO.out.symm) () A' C row hs.2.2.2.2 hg' hr⟩
      case hIx => exact fun _ _ _ _ _ h _ _ => h
      case hassign =>
        intro l x W be K hbe hK
        dsimp only [endC] at hK ⊢
        gi_wp2
        exact hK
      case hbody =>
        rintro l pre ⟨x, y, e⟩ ⟨hx, hy, he⟩ be X ⟨h1, h2, h3, ⟨h4, h5⟩, h6⟩ hbe hbk hsX hlen
        dsimp only [endC] at hx hy he hbk ⊢
        obtain ⟨L, HL⟩ : ∃ L, Hid (pre.map (·.1) = L) := ⟨_, Lib.hid rfl⟩
        have HSN : Hid ((pre ++ [(⟨(x, y, e), ⟨hx, hy, he⟩⟩ : EndT b ps)]).map (·.1) = L ++ [(x, y, e)]) := Lib.hid (by rw [List.map_append, HL.out]; rfl)
        rw [HL.out] at h1
        obtain ⟨F, HFF⟩ : ∃ F, Hid (fillF f L = F) := ⟨_, Lib.hid rfl⟩
        rw [HFF.out] at h1
        have HFN : Hid (fillF f (L ++ [(x, y, e)]) = updN F x y e (numF f x y e)) := Lib.hid (by rw [fillF_snoc, HFF.out])
        have hxi : x < i := by have := HK1.out; rw [HQ.out] at hx; omega
        have hym : y < m := by rw [HLN.out, HQ.out] at hy; have := HM.out; have := HR.out; omega
        have hin := in64_nat (x := x) (y := y) (e := e) (by omega) (by omega) (by omega)
        have hxk : x < ks.length := by rw [HI.out]; exact hxi
        obtain ⟨k, hk⟩ : ∃ k, ks[x]? = some k := ⟨ks[x], List.getElem?_eq_getElem hxk⟩
        have he2i : (e : Int) < 2 := by omega
        have hkb := HKS.out k (List.mem_of_getElem? hk)
        have c2 : X.cell? ⟨bo, 0, none⟩ = some (.slice (some ⟨O, 0, none⟩) i i) := h2.cell 0
        have e0 : X.cell? ⟨be, 0, none⟩ = some (.int .i64 (x : Int)) := hbk.cell 0
        have e1 : X.cell? ⟨be, 1, none⟩ = some (.int .i64 (y : Int)) := hbk.cell 1
        have e2 : X.cell? ⟨be, 2, none⟩ = some (.int .i64 (e : Int)) := hbk.cell 2
        have cr := h1.row hk
        have cn := h1.num hk hym he
        have fn := h1.frozen hk (y * 2 + e)
        have hok1 := h1.set_ hk hym he (-1)
        have hkbe : be ≠ k := by have := HSZ.out; omega
        have hktm : tm ≠ k := by omega
        have hkmb : mb ≠ k := fun e => by
          have h7 := h5.obj
          obtain ⟨es, cl, h8⟩ := h7
          have h9 := h1.rows x k hk
          unfold Bk at h9
          rw [← e, h8] at h9
          cases h9
        have hbk2 := hbk.far (p := ⟨k, y * 2 + e, none⟩) hkbe (.int .i64 (-1))
        have h22 := h2.far (p := ⟨k, y * 2 + e, none⟩) hkb.2.1.symm (.int .i64 (-1))
        have h32 := h3.far (p := ⟨k, y * 2 + e, none⟩) hktm (.int .i64 (-1))
        have h52 := h5.setCell (a := ⟨k, y * 2 + e, none⟩) hkmb (.int .i64 (-1))
        have hch1 : Chg (fun j => j = k) X (X.setCell ⟨k, y * 2 + e, none⟩ (.int .i64 (-1))) := Chg.setCell (X := fun j => j = k) (p := ⟨k, y * 2 + e, none⟩) (Chg.refl _ X) (.inl rfl) _
        gi_wp2
        refine round_held (fun V => V.cell? ⟨bo, 0, none⟩ = some (.slice (some ⟨O, 0, none⟩) i i) ∧ V.cell? ⟨be, 0, none⟩ = some (.int .i64 (x : Int)) ∧ V.cell? ⟨be, 1, none⟩ = some (.int .i64 (y : Int)) ∧ V.cell? ⟨be, 2, none⟩ = some (.int .i64 (e : Int)) ∧ V.cell? ⟨O, x, none⟩ = some (.slice (some ⟨k, 0, none⟩) m m)) hmix (by kernel_rfl) (fun _ _ h => h) ⟨c2, e0, e1, e2, cr⟩ (fun hS => ?_)
        refine wpAnyH_take (i := 0) (v := ?_) rfl (by kernel_rfl) (by kernel_rfl) (by kernel_rfl) (fun _ _ _ h => h) (Or.inl ⟨by rfl, ?_⟩) hS ?_
        rotate_left
        · intro w hSw
          (try dsimp only at hSw)
          go_simp
          (try with_reducible rfl)
        try simp (maxSteps := 10000000) only [Act.put, List.setIfInBounds_toArray, List.set_cons_zero, List.set_cons_succ, List.getElem_toArray, List.getElem_cons_zero]
        refine wpAnyH_take (i := 1) (v := ?_) rfl (by kernel_rfl) (by kernel_rfl) (by kernel_rfl) (fun _ _ _ h => h) (Or.inl ⟨by rfl, ?_⟩) hS ?_
        rotate_left
        · intro w hSw
          (try dsimp only at hSw)
          go_simp
          (try with_reducible rfl)
        try simp (maxSteps := 10000000) only [Act.put, List.setIfInBounds_toArray, List.set_cons_zero, List.set_cons_succ, List.getElem_toArray, List.getElem_cons_zero, List.getElem_cons_succ]
        refine wpAnyH_take (i := 2) (v := ?_) rfl (by kernel_rfl) (by kernel_rfl) (by kernel_rfl) (fun _ _ _ h => h) (Or.inl ⟨by rfl, ?_⟩) hS ?_
        rotate_left
        · intro w hSw
          (try dsimp only at hSw)
          go_simp
          (try with_reducible rfl)
        try simp (maxSteps := 10000000) only [Act.put, List.setIfInBounds_toArray, List.set_cons_zero, List.set_cons_succ, List.getElem_toArray, List.getElem_cons_zero, List.getElem_cons_succ]
        refine wpAnyH_take (i := 3) (v := ?_) rfl (by kernel_rfl) (by kernel_rfl) (by kernel_rfl) (fun _ _ _ h => h) (Or.inl ⟨by rfl, ?_⟩) hS ?_
        rotate_left
        · intro w hSw
          (try dsimp only at hSw)
          go_simp
          (try with_reducible rfl)
        try simp (maxSteps := 10000000) only [Act.put, List.setIfInBounds_toArray, List.set_cons_zero, List.set_cons_succ, List.getElem_toArray, List.getElem_cons_zero, List.getElem_cons_succ]
        refine wpAnyH_take (i := 4) (v := ?_) rfl (by kernel_rfl) (by kernel_rfl) (by kernel_rfl) (fun _ _ _ h => h) (Or.inl ⟨by rfl, ?_⟩) hS ?_
        rotate_left
        · intro w hSw
          (try dsimp only at hSw)
          go_simp
          (try with_reducible rfl)
        try simp (maxSteps := 10000000) only [Act.put, List.setIfInBounds_toArray, List.set_cons_zero, List.set_cons_succ, List.getElem_toArray, List.getElem_cons_zero, List.getElem_cons_succ]
        refine wpAnyH_take (i := 5) (v := ?_) rfl (by kernel_rfl) (by kernel_rfl) (by kernel_rfl) (fun _ _ _ h => h) (Or.inl ⟨by rfl, ?_⟩) hS ?_
        rotate_left
        · intro w hSw
          (try dsimp only at hSw)
          go_simp
          (try with_reducible rfl)
        try simp (maxSteps := 10000000) only [Act.put, List.setIfInBounds_toArray, List.set_cons_zero, List.set_cons_succ, List.getElem_toArray, List.getElem_cons_zero, List.getElem_cons_succ]
        refine wpAnyH_take (i := 6) (v := ?_) rfl (by kernel_rfl) (by kernel_rfl) (by kernel_rfl) (fun _ _ _ h => h) (Or.inl ⟨by rfl, ?_⟩) hS ?_
        rotate_left
        · intro w hSw
          (try dsimp only at hSw)
          go_simp
          (try with_reducible rfl)
        try simp (maxSteps := 10000000) only [Act.put, List.setIfInBounds_toArray, List.set_cons_zero, List.set_cons_succ, List.getElem_toArray, List.getElem_cons_zero, List.getElem_cons_succ]
        refine wpAnyH_take (i := 7) (v := ?_) rfl (by kernel_rfl) (by kernel_rfl) (by kernel_rfl) (fun _ _ _ h => h) (Or.inl ⟨by rfl, ?_⟩) hS ?_
        rotate_left
        · intro w hSw
          (try dsimp only at hSw)
          go_simp
          (try with_reducible rfl)
        try simp (maxSteps := 10000000) only [Act.put, List.setIfInBounds_toArray, List.set_cons_zero, List.set_cons_succ, List.getElem_toArray, List.getElem_cons_zero, List.getElem_cons_succ]
        refine wpAnyH_take (i := 8) (v := ?_) rfl (by kernel_rfl) (by kernel_rfl) (by kernel_rfl) (fun _ _ _ h => h) (Or.inl ⟨by rfl, ?_⟩) hS ?_
        rotate_left
        · intro w hSw
          (try dsimp only at hSw)
          go_simp
          (try with_reducible rfl)
        try simp (maxSteps := 10000000) only [Act.put, List.setIfInBounds_toArray, List.set_cons_zero, List.set_cons_succ, List.getElem_toArray, List.getElem_cons_zero, List.getElem_cons_succ]
        refine wpAnyH_take (i := 9) (v := ?_) rfl (by kernel_rfl) (by kernel_rfl) (by kernel_rfl) (fun _ _ _ h => h) (Or.inl ⟨by rfl, ?_⟩) hS ?_
        rotate_left
        · intro w hSw
          (try dsimp only at hSw)
          go_simp
          (try with_reducible rfl)
        try simp (maxSteps := 10000000) only [Act.put, List.setIfInBounds_toArray, List.set_cons_zero, List.set_cons_succ, List.getElem_toArray, List.getElem_cons_zero, List.getElem_cons_succ]
        refine wpAnyH_take (i := 10) (v := ?_) rfl (by kernel_rfl) (by kernel_rfl) (by kernel_rfl) (fun _ _ _ h => h) (Or.inl ⟨by rfl, ?_⟩) hS ?_
        rotate_left
        · intro w hSw
          (try dsimp only at hSw)
          go_simp
          (try with_reducible rfl)
        try simp (maxSteps := 10000000) only [Act.put, List.setIfInBounds_toArray, List.set_cons_zero, List.set_cons_succ, List.getElem_toArray, List.getElem_cons_zero, List.getElem_cons_succ]
        refine wpAnyH_ready (rs := [11]) (by kernel_rfl) (by simp) ?_
        refine AllReadyH.cons rfl (fun K hK => ?_) AllReadyH.nil
        go_simp
        refine hK.out _ _ ⟨h22.cell 0, hbk2.cell 0, hbk2.cell 1, hbk2.cell 2, hok1.row hk⟩ (fun hS => ?_)
        clear hK K
        refine wpAnyH_done (by kernel_rfl) ?_ _
        have t1 := hok1.drew
        have t2 := h22.drew
        have t3 := h32.drew
        have t4 := hbk2.drew
        have t5 := h52.drew
        have hch2 := hch1.drew
        obtain ⟨X1, hX1⟩ : ∃ X1, (X.setCell ⟨k, y * 2 + e, none⟩ (.int .i64 (-1))).drew = X1 := ⟨_, rfl⟩
        rw [hX1] at t1 t2 t3 t4 t5 hch2 ⊢
        clear hX1 c2 e0 e1 e2 cr cn fn hok1 hbk2 h22 h32 h52 hch1 hS
        have d3 : X1.cell? ⟨tm, 0, none⟩ = some (.map (some mb)) := t3.cell 0
        have d0 : X1.cell? ⟨be, 0, none⟩ = some (.int .i64 (x : Int)) := t4.cell 0
        have d1 : X1.cell? ⟨be, 1, none⟩ = some (.int .i64 (y : Int)) := t4.cell 1
        have d2 : X1.cell? ⟨be, 2, none⟩ = some (.int .i64 (e : Int)) := t4.cell 2
        have hkO : O ≤ k := hkb.1
        have hkW5 : k < W5.heap.size := by have := HSZ.out; omega
        have hbxX : bx < X.heap.size ∧ bx ≠ k := by have := HSZ.out; omega
        have HBXX := Lib.hid hbxX
        have hOX : O ≤ X.heap.size := Nat.le_trans HSZ.out.2.2.2.1 hsX
        clear hbxX
        cases hfv : f ((x : Int), (y : Int), (e : Int)) with
        | none =>
          have HN : Hid (numF f x y e = -1) := Lib.hid (by unfold numF; rw [hfv]; rfl)
          have HFV : Hid (f ((x : Int), (y : Int), (e : Int)) = if false then some 0 else none) := Lib.hid (by rw [hfv]; rfl)
          rw [HN.out] at HFN
          clear hfv
          gi_wp2_with (refine Ms.look_in rfl (.tmp 62) (.tmp 63) rfl rfl t5 ((x : Int), (y : Int), (e : Int)) rfl hin 0 false HFV (Lib.hid (fun _ => rfl)) ?_)
          refine ⟨hch2.keepsAt _ (fun j e => by rw [e]; exact hkW5), hch2.ke (fun j e => by rw [e]; exact hkO) hOX HBXX.out.1 HBXX.out.2, by rw [HSN.out, HFN.out]; exact t1, t2, t3, ⟨h4, t5⟩, ?_⟩
          exact h6.trans (hch2.toBelow (fun j e => by rw [e]; exact hkO) hOX)
        | some v =>
          have HN : Hid (numF f x y e = v) := Lib.hid (by unfold numF; rw [hfv]; rfl)
          have HFV : Hid (f ((x : Int), (y : Int), (e : Int)) = if true then some v else none) := Lib.hid (by rw [hfv]; rfl)
          rw [HN.out] at HFN
          clear hfv
          have c2 : X1.cell? ⟨bo, 0, none⟩ = some (.slice (some ⟨O, 0, none⟩) i i) := t2.cell 0
          have cr := t1.row hk
          have cn := t1.num hk hym he
          have fn := t1.frozen hk (y * 2 + e)
          have hok1 := t1.set_ hk hym he v
          rw [updN_updN] at hok1
          have hbk2 := t4.far (p := ⟨k, y * 2 + e, none⟩) hkbe (.int .i64 v)
          have h22 := t2.far (p := ⟨k, y * 2 + e, none⟩) hkb.2.1.symm (.int .i64 v)
          have h32 := t3.far (p := ⟨k, y * 2 + e, none⟩) hktm (.int .i64 v)
          have h52 := t5.setCell (a := ⟨k, y * 2 + e, none⟩) hkmb (.int .i64 v)
          have hch3 : Chg (fun j => j = k) X (X1.setCell ⟨k, y * 2 + e, none⟩ (.int .i64 v)) := Chg.setCell (X := fun j => j = k) (p := ⟨k, y * 2 + e, none⟩) hch2 (.inl rfl) _
          gi_wp2_with (refine Ms.look_in rfl (.tmp 62) (.tmp 63) rfl rfl t5 ((x : Int), (y : Int), (e : Int)) rfl hin v true HFV (Lib.hid (fun h => by cases h)) ?_)
          refine round_held (fun V => V.cell? ⟨bo, 0, none⟩ = some (.slice (some ⟨O, 0, none⟩) i i) ∧ V.cell? ⟨be, 0, none⟩ = some (.int .i64 (x : Int)) ∧ V.cell? ⟨be, 1, none⟩ = some (.int .i64 (y : Int)) ∧ V.cell? ⟨be, 2, none⟩ = some (.int .i64 (e : Int)) ∧ V.cell? ⟨O, x, none⟩ = some (.slice (some ⟨k, 0, none⟩) m m)) hmix (by kernel_rfl) (fun _ _ h => h) ⟨c2, d0, d1, d2, cr⟩ (fun hS => ?_)
          refine wpAnyH_take (i := 0) (v := ?_) rfl (by kernel_rfl) (by kernel_rfl) (by kernel_rfl) (fun _ _ _ h => h) (Or.inl ⟨by rfl, ?_⟩) hS ?_
          rotate_left
          · intro w hSw
            (try dsimp only at hSw)
            go_simp
            (try with_reducible rfl)
          try simp (maxSteps := 10000000) only [Act.put, List.setIfInBounds_toArray, List.set_cons_zero, List.set_cons_succ, List.getElem_toArray, List.getElem_cons_zero]
          refine wpAnyH_take (i := 1) (v := ?_) rfl (by kernel_rfl) (by kernel_rfl) (by kernel_rfl) (fun _ _ _ h => h) (Or.inl ⟨by rfl, ?_⟩) hS ?_
          rotate_left
          · intro w hSw
            (try dsimp only at hSw)
            go_simp
            (try with_reducible rfl)
          try simp (maxSteps := 10000000) only [Act.put, List.setIfInBounds_toArray, List.set_cons_zero, List.set_cons_succ, List.getElem_toArray, List.getElem_cons_zero, List.getElem_cons_succ]
          refine wpAnyH_take (i := 2) (v := ?_) rfl (by kernel_rfl) (by kernel_rfl) (by kernel_rfl) (fun _ _ _ h => h) (Or.inl ⟨by rfl, ?_⟩) hS ?_
          rotate_left
          · intro w hSw
            (try dsimp only at hSw)
            go_simp
            (try with_reducible rfl)
          try simp (maxSteps := 10000000) only [Act.put, List.setIfInBounds_toArray, List.set_cons_zero, List.set_cons_succ, List.getElem_toArray, List.getElem_cons_zero, List.getElem_cons_succ]
          refine wpAnyH_take (i := 3) (v := ?_) rfl (by kernel_rfl) (by kernel_rfl) (by kernel_rfl) (fun _ _ _ h => h) (Or.inl ⟨by rfl, ?_⟩) hS ?_
          rotate_left
          · intro w hSw
            (try dsimp only at hSw)
            go_simp
            (try with_reducible rfl)
          try simp (maxSteps := 10000000) only [Act.put, List.setIfInBounds_toArray, List.set_cons_zero, List.set_cons_succ, List.getElem_toArray, List.getElem_cons_zero, List.getElem_cons_succ]
          refine wpAnyH_take (i := 4) (v := ?_) rfl (by kernel_rfl) (by kernel_rfl) (by kernel_rfl) (fun _ _ _ h => h) (Or.inl ⟨by rfl, ?_⟩) hS ?_
          rotate_left
          · intro w hSw
            (try dsimp only at hSw)
            go_simp
            (try with_reducible rfl)
          try simp (maxSteps := 10000000) only [Act.put, List.setIfInBounds_toArray, List.set_cons_zero, List.set_cons_succ, List.getElem_toArray, List.getElem_cons_zero, List.getElem_cons_succ]
          refine wpAnyH_take (i := 5) (v := ?_) rfl (by kernel_rfl) (by kernel_rfl) (by kernel_rfl) (fun _ _ _ h => h) (Or.inl ⟨by rfl, ?_⟩) hS ?_
          rotate_left
          · intro w hSw
            (try dsimp only at hSw)
            go_simp
            (try with_reducible rfl)
          try simp (maxSteps := 10000000) only [Act.put, List.setIfInBounds_toArray, List.set_cons_zero, List.set_cons_succ, List.getElem_toArray, List.getElem_cons_zero, List.getElem_cons_succ]
          refine wpAnyH_take (i := 6) (v := ?_) rfl (by kernel_rfl) (by kernel_rfl) (by kernel_rfl) (fun _ _ _ h => h) (Or.inl ⟨by rfl, ?_⟩) hS ?_
          rotate_left
          · intro w hSw
            (try dsimp only at hSw)
            go_simp
            (try with_reducible rfl)
          try simp (maxSteps := 10000000) only [Act.put, List.setIfInBounds_toArray, List.set_cons_zero, List.set_cons_succ, List.getElem_toArray, List.getElem_cons_zero, List.getElem_cons_succ]
          refine wpAnyH_take (i := 7) (v := ?_) rfl (by kernel_rfl) (by kernel_rfl) (by kernel_rfl) (fun _ _ _ h => h) (Or.inl ⟨by rfl, ?_⟩) hS ?_
          rotate_left
          · intro w hSw
            (try dsimp only at hSw)
            go_simp
            (try with_reducible rfl)
          try simp (maxSteps := 10000000) only [Act.put, List.setIfInBounds_toArray, List.set_cons_zero, List.set_cons_succ, List.getElem_toArray, List.getElem_cons_zero, List.getElem_cons_succ]
          refine wpAnyH_take (i := 8) (v := ?_) rfl (by kernel_rfl) (by kernel_rfl) (by kernel_rfl) (fun _ _ _ h => h) (Or.inl ⟨by rfl, ?_⟩) hS ?_
          rotate_left
          · intro w hSw
            (try dsimp only at hSw)
            go_simp
            (try with_reducible rfl)
          try simp (maxSteps := 10000000) only [Act.put, List.setIfInBounds_toArray, List.set_cons_zero, List.set_cons_succ, List.getElem_toArray, List.getElem_cons_zero, List.getElem_cons_succ]
          refine wpAnyH_take (i := 9) (v := ?_) rfl (by kernel_rfl) (by kernel_rfl) (by kernel_rfl) (fun _ _ _ h => h) (Or.inl ⟨by rfl, ?_⟩) hS ?_
          rotate_left
          · intro w hSw
            (try dsimp only at hSw)
            go_simp
            (try with_reducible rfl)
          try simp (maxSteps := 10000000) only [Act.put, List.setIfInBounds_toArray, List.set_cons_zero, List.set_cons_succ, List.getElem_toArray, List.getElem_cons_zero, List.getElem_cons_succ]
          refine wpAnyH_take (i := 10) (v := ?_) rfl (by kernel_rfl) (by kernel_rfl) (by kernel_rfl) (fun _ _ _ h => h) (Or.inl ⟨by rfl, ?_⟩) hS ?_
          rotate_left
          · intro w hSw
            (try dsimp only at hSw)
            go_simp
            (try with_reducible rfl)
          try simp (maxSteps := 10000000) only [Act.put, List.setIfInBounds_toArray, List.set_cons_zero, List.set_cons_succ, List.getElem_toArray, List.getElem_cons_zero, List.getElem_cons_succ]
          refine wpAnyH_take (i := 11) (v := ?_) rfl (by kernel_rfl) (by kernel_rfl) (by kernel_rfl) (fun _ _ _ h => h) (Or.inl ⟨by rfl, ?_⟩) hS ?_
          rotate_left
          · intro w hSw
            (try dsimp only at hSw)
            go_simp
            (try with_reducible rfl)
          try simp (maxSteps := 10000000) only [Act.put, List.setIfInBounds_toArray, List.set_cons_zero, List.set_cons_succ, List.getElem_toArray, List.getElem_cons_zero, List.getElem_cons_succ]
          refine wpAnyH_ready (rs := [12]) (by kernel_rfl) (by simp) ?_
          refine AllReadyH.cons rfl (fun K hK => ?_) AllReadyH.nil
          go_simp
          refine hK.out _ _ ⟨h22.cell 0, hbk2.cell 0, hbk2.cell 1, hbk2.cell 2, hok1.row hk⟩ (fun hS => ?_)
          clear hK K
          refine wpAnyH_done (by kernel_rfl) ?_ _
          gi_wp2
          refine ⟨hch3.drew.keepsAt _ (fun j e => by rw [e]; exact hkW5), hch3.drew.ke (fun j e => by rw [e]; exact hkO) hOX HBXX.out.1 HBXX.out.2, by rw [HSN.out, HFN.out]; exact hok1.drew, h22.drew, h32.drew, ⟨h4, h52.drew⟩, ?_⟩
          exact h6.trans (hch3.drew.toBelow (fun j e => by rw [e]; exact hkO) hOX)
      case hdone =>
        rintro Dd xs X hDd hxs ⟨h1, h2, h3, ⟨h4, h5⟩, h6⟩ hDX
        rw [hxs] at h1
        have c2 : X.cell? ⟨bo, 0, none⟩ = some (.slice (some ⟨O, 0, none⟩) i i) := h2.cell 0
        have HD := Lib.hid hDX
        have HE : Hid (∀ x y e : Nat, x < i → y < m → e < 2 → fillF f (endsL b ps) x y e = early b ps x y e) := Lib.hid (fun x y e hx hy he => by
          rw [← HF.out]
          exact fillF_ends b ps x y e ⟨by show x ≤ lefts b ps; rw [HQ.out]; have := HK1.out; omega, by show y ≤ ps.length - lefts b ps; rw [HLN.out, HQ.out]; have := HM.out; have := HR.out; omega, he⟩)
        have hOs : s0 ≤ O := Nat.le_of_lt hs0
        have hE : Below s0 w X := by rw [H0.out] at hb1; exact hb1.trans (h6.mono hOs)
        clear hDX
        go_wp2
        refine ⟨by simp, .inl ⟨_, _, rfl, run_takeDeferred HD.out, ?_⟩⟩
        refine ⟨_, results_tmp2 rfl _ _ _, fillF f (endsL b ps), ⟨O, ks, rfl, h1.same (World.putObj_heap_other (by have := HSZ.out; omega)) (fun k hk => World.putObj_heap_other (by have := HKS.out k hk; have := HSZ.out; omega)), HI.out, by rw [H0.out]; exact hOs, fun k hk => by rw [H0.out]; exact Nat.le_trans hOs (HKS.out k hk).1, ?_⟩, HE.out⟩
        rw [H0.out]
        exact hE.grown (grownBy_putObj' X Dd (.deferred none)) (by have := h1.lt.1; omega) (fun k e => by cases e; have := HSZ.out; omega)
      case hstop => exact fun _ _ _ _ _ h _ => h.elim
end Go.Proofs.Ytaekjnjignlmoaa
