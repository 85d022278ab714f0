/-
  
-/
import Derived.Test.YtibmpjhffeinoaaGreatGb
import Derived.Test.YtibmpjhffeinoaaGreatGa
import Derived.WalkMore
namespace Go.Proofs.YtibmpjhffeinoaaGreat
open Go.RowKit Go.Shelf
attribute [local go_sem] Oper.semAt_some

def takenArr (L : List Int) : Array Value := #[.int .i64 (tkI L 0), .int .i64 (tkI L 1), .int .i64 (tkI L 2), .int .i64 (tkI L 3), .int .i64 (tkI L 4), .int .i64 (tkI L 5), .int .i64 (tkI L 6), .int .i64 (tkI L 7)]

def tkList (L : List Int) : List Int := [tkI L 0, tkI L 1, tkI L 2, tkI L 3, tkI L 4, tkI L 5, tkI L 6, tkI L 7]
theorem eql_taken (L1 L2 : List Int) (r : Bool) (hr : decide (tkList L1 = tkList L2) = r) (w : World) :
    (binOp .eql 126 (.agg #[.int .i64 (tkI L1 0), .int .i64 (tkI L1 1), .int .i64 (tkI L1 2), .int .i64 (tkI L1 3), .int .i64 (tkI L1 4), .int .i64 (tkI L1 5), .int .i64 (tkI L1 6), .int .i64 (tkI L1 7)])
      (.agg #[.int .i64 (tkI L2 0), .int .i64 (tkI L2 1), .int .i64 (tkI L2 2), .int .i64 (tkI L2 3), .int .i64 (tkI L2 4), .int .i64 (tkI L2 5), .int .i64 (tkI L2 6), .int .i64 (tkI L2 7)])).run Tryz.prog w = .ok (.bool r) w :=
  eql_marks (tkList L1) (tkList L2) rfl rfl w r hr
theorem tk_ne {L : List Int} {k : Nat} (h8 : k < 8) (hk : (k : Int) ∉ L) : decide (tkList (L ++ [(k : Int)]) = tkList L) = false := by
  apply decide_eq_false
  intro h
  have h0 : tkI L (k : Int) = 0 := tkI_no hk
  have h1 : tkI (L ++ [(k : Int)]) (k : Int) = 1 := tkI_yes (by simp)
  simp only [tkList, List.cons.injEq] at h
  match k, h8 with
  | 0, _ => exact absurd (h1.symm.trans ((show _ = tkI L _ from h.1).trans h0)) (by decide)
  | 1, _ => exact absurd (h1.symm.trans ((show _ = tkI L _ from h.2.1).trans h0)) (by decide)
  | 2, _ => exact absurd (h1.symm.trans ((show _ = tkI L _ from h.2.2.1).trans h0)) (by decide)
  | 3, _ => exact absurd (h1.symm.trans ((show _ = tkI L _ from h.2.2.2.1).trans h0)) (by decide)
  | 4, _ => exact absurd (h1.symm.trans ((show _ = tkI L _ from h.2.2.2.2.1).trans h0)) (by decide)
  | 5, _ => exact absurd (h1.symm.trans ((show _ = tkI L _ from h.2.2.2.2.2.1).trans h0)) (by decide)
  | 6, _ => exact absurd (h1.symm.trans ((show _ = tkI L _ from h.2.2.2.2.2.2.1).trans h0)) (by decide)
  | 7, _ => exact absurd (h1.symm.trans ((show _ = tkI L _ from h.2.2.2.2.2.2.2.1).trans h0)) (by decide)

theorem pu_fall (pl : Int) (wh : Bool) (L : List Int) (A A' : Option Addr) (n c n' c' : Nat) (s s' : Int) :
    ((puCells pl wh L A n c s).setIfInBounds 10 (.slice A' n' c')).setIfInBounds 11 (.int .i64 s') = puCells pl wh (L ++ [(-1 : Int)]) A' n' c' s' := by
  simp [puCells, tkI_snoc]
/-- At the return the block for the rounds' deferred calls is taken. -/
theorem pu_put {w W : World} {base g D n c : Nat} {pl s : Int} {wh : Bool} {A : Option Addr} {L : List Int} {x : Option (List Deferred)} (o : Obj) (hbg : base ≤ g) (hsw : base ≤ w.heap.size) (hg : Bk W g 128 (puCells pl wh L A n c s)) (ho : Oi W base A n c L)
    (hb : Below base w W) (hD : W.heap[D]? = some (.deferred x)) (hDw : base ≤ D) : Pu (W.putObj D o) base g pl wh A n c L s ∧ Below base w (W.putObj D o) := by
  have hgr := grownBy_putObj' W D o
  have hn : ∀ r, some D = some r → base ≤ r ∧ ∃ o : Obj, W.heap[r]? = some o ∧ o.isCells = false := fun r e => by cases e; exact ⟨hDw, _, hD, rfl⟩
  exact ⟨⟨hbg, Bk.from_ (β := Unit) base _ _ _ () W _ _ hg hgr hn, Oi.from_ (β := Unit) base _ _ _ _ _ () W _ _ ho hgr hn⟩, hb.grown hgr (Nat.le_trans hsw hb.size) (fun k e => by cases e; exact hDw)⟩

set_option maxRecDepth 100000 in
set_option maxHeartbeats 2000000 in
theorem drop_flat (b g base a : Nat) (A : Option Addr) (n c : Nat) (L : List Int) (s : Int) (w : World) (hb8 : b ≤ 8) (ha : a < b) (hn : n ≤ 1048576) (hs : 0 ≤ s ∧ s ≤ 1048576)
    (hp : Pu w base g (b : Int) false A n c L s) :
    Calls Tryz.prog 167 #[.pointer (some ⟨g, 0, none⟩), .int .i64 (a : Int)] w fun e w' => e = .returned (.tuple #[]) ∧ ∃ (A' : Option Addr) (c' : Nat), Pu w' base g (b : Int) false A' (n + 1) c' (L ++ [lie1 (b : Int) L (a : Int)]) (s + (slid1 (b : Int) L (a : Int) - (a : Int))) ∧ Below base w w' := by
  obtain ⟨hbg, hpu, ho⟩ := hp
  have hgl : g < w.heap.size := (Array.getElem?_eq_some_iff.1 hpu).1
  have hmf : ∀ (fn : Fn) (first cap : Array Value) (w : World), (Instr.makeFunc fn first cap).run Tryz.prog w = .ok (.func fn first cap) w := fun _ _ _ _ => rfl
  have c0 : w.cell? ⟨g, 0, none⟩ = some (.int .i64 (b : Int)) := pu_cell hpu 0
  have c1 : w.cell? ⟨g, 1, none⟩ = some (.bool false) := pu_cell hpu 1
  have t0 : w.cell? ⟨g, 2, none⟩ = some (.int .i64 (tkI L 0)) := pu_cell hpu 2
  have t1 : w.cell? ⟨g, 3, none⟩ = some (.int .i64 (tkI L 1)) := pu_cell hpu 3
  have t2 : w.cell? ⟨g, 4, none⟩ = some (.int .i64 (tkI L 2)) := pu_cell hpu 4
  have t3 : w.cell? ⟨g, 5, none⟩ = some (.int .i64 (tkI L 3)) := pu_cell hpu 5
  have t4 : w.cell? ⟨g, 6, none⟩ = some (.int .i64 (tkI L 4)) := pu_cell hpu 6
  have t5 : w.cell? ⟨g, 7, none⟩ = some (.int .i64 (tkI L 5)) := pu_cell hpu 7
  have t6 : w.cell? ⟨g, 8, none⟩ = some (.int .i64 (tkI L 6)) := pu_cell hpu 8
  have t7 : w.cell? ⟨g, 9, none⟩ = some (.int .i64 (tkI L 7)) := pu_cell hpu 9
  have hgl1 : g < w.heap.size + 1 := by omega
  have hgl2 : g < w.heap.size + 1 + 1 := by omega
  have hgl3 : g < w.heap.size + 1 + 1 + 1 := by omega
  have hgl4 : g < w.heap.size + 1 + 1 + 1 + 1 := by omega
  have HPU := Lib.hid hpu
  clear hpu
  refine (callsIn_wide (n := 5)).1 ?_
  refine callsIn_of_wp_marks Tryz.func167 rfl trivial ?_ rfl
  simp only [Tryz.ntmps167, List.size_toArray, List.length_cons, List.length_nil, Nat.reduceAdd, Nat.reduceSub, Array.replicate_succ, Array.replicate_zero, List.push_toArray, List.append_toArray, List.nil_append, List.cons_append]
  refine wpIn_wide.2 ?_
  go_wp2
  go_step3
  go_wp2
  have hB1 : Below w.heap.size w ((((w.alloc (.cells #[.pointer (some ⟨g, 0, none⟩)] 119)).alloc (.cells #[.int .i64 (a : Int)] 3)).alloc (.cells (takenArr L) 126)).alloc (.cells #[.int .i64 (a : Int)] 3)) := ((((Below.refl _ w).alloc (Nat.le_refl _) _).alloc (by simp) _).alloc (by simp; omega) _).alloc (by simp; omega) _
  have e0 := (((Bk.new w 119 #[.pointer (some ⟨g, 0, none⟩)]).alloc (.cells #[.int .i64 (a : Int)] 3)).alloc (.cells (takenArr L) 126)).alloc (.cells #[.int .i64 (a : Int)] 3)
  have e1 := ((Bk.new (w.alloc (.cells #[.pointer (some ⟨g, 0, none⟩)] 119)) 3 #[.int .i64 (a : Int)]).alloc (.cells (takenArr L) 126)).alloc (.cells #[.int .i64 (a : Int)] 3)
  have e2 := (Bk.new ((w.alloc (.cells #[.pointer (some ⟨g, 0, none⟩)] 119)).alloc (.cells #[.int .i64 (a : Int)] 3)) 126 (takenArr L)).alloc (.cells #[.int .i64 (a : Int)] 3)
  have e3 := Bk.new (((w.alloc (.cells #[.pointer (some ⟨g, 0, none⟩)] 119)).alloc (.cells #[.int .i64 (a : Int)] 3)).alloc (.cells (takenArr L) 126)) 3 #[.int .i64 (a : Int)]
  simp only [World.size_alloc] at e1 e2 e3
  obtain ⟨W1, hW1⟩ : ∃ W1 : World, ((((w.alloc (.cells #[.pointer (some ⟨g, 0, none⟩)] 119)).alloc (.cells #[.int .i64 (a : Int)] 3)).alloc (.cells (takenArr L) 126)).alloc (.cells #[.int .i64 (a : Int)] 3)) = W1 := ⟨_, rfl⟩
  have hsz : W1.heap.size = w.heap.size + 4 := by rw [← hW1]; simp
  rw [hW1] at hB1 e0 e1 e2 e3
  unfold takenArr at hW1
  rw [hW1]
  clear hW1
  have kg : Bk W1 g 128 (puCells (b : Int) false L A n c s) := (hB1.block g hgl).trans HPU.out
  have ho1 := ho.below hB1
  have HB1 := Lib.hid hB1
  have HSZ := Lib.hid hsz
  have b3 := e3.cell 0
  clear hB1 hsz c0 c1 t0 t1 t2 t3 t4 t5 t6 t7 hgl1 hgl2 hgl3 hgl4
  go_step3
  go_wp2
  refine wp_loop_rounds 2 ?_
  rw [rounds_succ]
  go_wp2_with (go_at_call 287; refine (pFree _ _ _).mono ?_; rintro e w' ⟨rfl, rfl⟩)
  have f1 := (((Bk.new W1 3 #[.int .i64 ((0 : Nat) : Int)]).alloc (.cells #[.pointer (some ⟨g, 0, none⟩)] 119)).alloc (.cells #[.int .i64 (a : Int)] 3))
  have f2 := ((Bk.new (W1.alloc (.cells #[.int .i64 ((0 : Nat) : Int)] 3)) 119 #[.pointer (some ⟨g, 0, none⟩)]).alloc (.cells #[.int .i64 (a : Int)] 3))
  have f3 := Bk.new ((W1.alloc (.cells #[.int .i64 ((0 : Nat) : Int)] 3)).alloc (.cells #[.pointer (some ⟨g, 0, none⟩)] 119)) 3 #[.int .i64 (a : Int)]
  simp only [World.size_alloc] at f2 f3
  have hrow : ∀ k, A.map Addr.block = some k → k < w.heap.size := fun k hk => (ho.lt k hk).2
  refine drop_range b g base w.heap.size (w.heap.size + 1) W1.heap.size (W1.heap.size + 1 + 1) (W1.heap.size + 1) a 0 a false A n c L s _ _ _ _ _ _ _ _ _ _ _ _ _ _ _ _ _ _ _ _ _ _ _ _ _ _ _ _ _ _ _ _ _ _ _ _ _ _ _ _ _ _ _ _ _ _ _ _ _ _ _ _ _ _ _ _ _ _ _ _ _ _ _ _ _ _ _ _ _ _ _ _ _ _ _ _ _ _ _ _ _ _ _ _ _ _ _ _ _ _ _ _ _ _ _ _ _ _ _ _ _ _ _ _
    hbg hb8 (by omega) (by omega) (by omega) hn hs (((e0.alloc _).alloc _).alloc _) (((e1.alloc _).alloc _).alloc _) f1 f3 f2 (((kg.alloc _).alloc _).alloc _) (((ho1.alloc _).alloc _).alloc _)
    (fun h => by have := hrow _ h.symm; omega) (fun h => by have := hrow _ h.symm; have := HSZ.out; omega) ?q1 ?q2
  case q1 =>
    intro k g3 cap D W' hkb hak hsl kg' ho' hkc _ hbel hD hDW
    have hDb : base ≤ D := by have := HSZ.out; simp only [World.size_alloc] at hDW; omega
    clear hDW
    have hbel : Below base w W' := ((HB1.out.mono (by omega)).trans ((((Below.refl base W1).alloc (by have := HSZ.out; omega) _).alloc (by have := HSZ.out; simp; omega) _).alloc (by have := HSZ.out; simp; omega) _)).trans hbel
    have m0 : Bk W' w.heap.size 119 #[.pointer (some ⟨g, 0, none⟩)] := hkc _ _ _ (by omega) (fun h => by have := hrow _ h.symm; omega) (((e0.alloc _).alloc _).alloc _)
    have m2 : Bk W' (w.heap.size + 1 + 1) 126 (takenArr L) := hkc _ _ _ (by omega) (fun h => by have := hrow _ h.symm; omega) (((e2.alloc _).alloc _).alloc _)
    have hmix : Tryz.prog.follows .mixedOrders = true := by kernel_rfl
    have hkL : (k : Int) ∉ L := by
      intro hm
      have h1 := slid1_go (places := (b : Int)) (L := L) (at_ := (k : Int)) ⟨by omega, hm⟩
      have h2 := (slid1_bd (places := (b : Int)) (L := L) (at_ := (k : Int) + 1) (by omega)).1
      have h3 : slid1 (b : Int) L (k : Int) = k := slid1_fix hsl (by omega) (by omega)
      omega
    have heq := eql_taken (L ++ [(k : Int)]) L false (tk_ne (by omega) hkL)
    go_wp2
    refine wp_region_noPanic ?_
    refine wp_region_held_drew (S := (fun W => W.cell? ⟨w.heap.size, 0, none⟩ = some (.pointer (some ⟨g, 0, none⟩)) ∧ W.cell? ⟨g, 2, none⟩ = some (.int .i64 (tkI (L ++ [(k : Int)]) 0)) ∧ W.cell? ⟨g, 3, none⟩ = some (.int .i64 (tkI (L ++ [(k : Int)]) 1)) ∧ W.cell? ⟨g, 4, none⟩ = some (.int .i64 (tkI (L ++ [(k : Int)]) 2)) ∧ W.cell? ⟨g, 5, none⟩ = some (.int .i64 (tkI (L ++ [(k : Int)]) 3)) ∧ W.cell? ⟨g, 6, none⟩ = some (.int .i64 (tkI (L ++ [(k : Int)]) 4)) ∧ W.cell? ⟨g, 7, none⟩ = some (.int .i64 (tkI (L ++ [(k : Int)]) 5)) ∧ W.cell? ⟨g, 8, none⟩ = some (.int .i64 (tkI (L ++ [(k : Int)]) 6)) ∧ W.cell? ⟨g, 9, none⟩ = some (.int .i64 (tkI (L ++ [(k : Int)]) 7)) ∧
      W.cell? ⟨w.heap.size + 1 + 1, 0, none⟩ = some (.int .i64 (tkI L 0)) ∧ W.cell? ⟨w.heap.size + 1 + 1, 1, none⟩ = some (.int .i64 (tkI L 1)) ∧ W.cell? ⟨w.heap.size + 1 + 1, 2, none⟩ = some (.int .i64 (tkI L 2)) ∧ W.cell? ⟨w.heap.size + 1 + 1, 3, none⟩ = some (.int .i64 (tkI L 3)) ∧ W.cell? ⟨w.heap.size + 1 + 1, 4, none⟩ = some (.int .i64 (tkI L 4)) ∧ W.cell? ⟨w.heap.size + 1 + 1, 5, none⟩ = some (.int .i64 (tkI L 5)) ∧ W.cell? ⟨w.heap.size + 1 + 1, 6, none⟩ = some (.int .i64 (tkI L 6)) ∧ W.cell? ⟨w.heap.size + 1 + 1, 7, none⟩ = some (.int .i64 (tkI L 7)))) hmix ⟨m0.cell 0, kg'.cell 2, kg'.cell 3, kg'.cell 4, kg'.cell 5, kg'.cell 6, kg'.cell 7, kg'.cell 8, kg'.cell 9, m2.cell 0, m2.cell 1, m2.cell 2, m2.cell 3, m2.cell 4, m2.cell 5, m2.cell 6, m2.cell 7⟩ (fun hS => ?_)
    refine wpAnyH_take (i := 0) (v := ?_) rfl (by kernel_rfl) (by kernel_rfl) (by kernel_rfl) (fun _ _ _ h => h) (Or.inl ⟨by rfl, ?_⟩) (by assumption) ?_
    rotate_left
    · intro w hSw
      (try dsimp only at hSw)
      go_simp
      (try with_reducible rfl)
    try simp (maxSteps := 10000000) only [Act.put, List.setIfInBounds_toArray, List.getElem_toArray]
    try simp only [List.getElem_cons_succ]
    try simp only [List.getElem_cons_zero]
    refine wpAnyH_take (i := 1) (v := ?_) rfl (by kernel_rfl) (by kernel_rfl) (by kernel_rfl) (fun _ _ _ h => h) (Or.inl ⟨by rfl, ?_⟩) (by assumption) ?_
    rotate_left
    · intro w hSw
      (try dsimp only at hSw)
      go_simp
      (try with_reducible rfl)
    try simp (maxSteps := 10000000) only [Act.put, List.setIfInBounds_toArray, List.set_cons_zero, List.set_cons_succ, List.getElem_toArray]
    try simp only [List.getElem_cons_succ]
    try simp only [List.getElem_cons_zero]
    refine wpAnyH_take (i := 2) (v := ?_) rfl (by kernel_rfl) (by kernel_rfl) (by kernel_rfl) (fun _ _ _ h => h) (Or.inl ⟨by rfl, ?_⟩) (by assumption) ?_
    rotate_left
    · intro w hSw
      (try dsimp only at hSw)
      go_simp
      (try with_reducible rfl)
    try simp (maxSteps := 10000000) only [Act.put, List.setIfInBounds_toArray, List.set_cons_zero, List.set_cons_succ, List.getElem_toArray]
    try simp only [List.getElem_cons_succ]
    try simp only [List.getElem_cons_zero]
    refine wpAnyH_take (i := 3) (v := ?_) rfl (by kernel_rfl) (by kernel_rfl) (by kernel_rfl) (fun _ _ _ h => h) (Or.inl ⟨by rfl, ?_⟩) (by assumption) ?_
    rotate_left
    · intro w hSw
      (try dsimp only at hSw)
      go_simp
      (try with_reducible rfl)
    try simp (maxSteps := 10000000) only [Act.put, List.setIfInBounds_toArray, List.set_cons_zero, List.set_cons_succ, List.getElem_toArray]
    try simp only [List.getElem_cons_succ]
    try simp only [List.getElem_cons_zero]
    refine wpAnyH_take (i := 4) (v := ?_) rfl (by kernel_rfl) (by kernel_rfl) (by kernel_rfl) (fun _ _ _ h => h) (Or.inl ⟨by rfl, ?_⟩) (by assumption) ?_
    rotate_left
    · intro w hSw
      (try dsimp only at hSw)
      go_simp
      (try with_reducible rfl)
    try simp (maxSteps := 10000000) only [Act.put, List.setIfInBounds_toArray, List.set_cons_zero, List.set_cons_succ, List.getElem_toArray]
    try simp only [List.getElem_cons_succ]
    try simp only [List.getElem_cons_zero]
    refine wpAnyH_take (i := 5) (v := ?_) rfl (by kernel_rfl) (by kernel_rfl) (by kernel_rfl) (fun _ _ _ h => h) (Or.inl ⟨by rfl, ?_⟩) (by assumption) ?_
    rotate_left
    · intro w hSw
      (try dsimp only at hSw)
      go_simp
      (try with_reducible rfl)
    try simp (maxSteps := 10000000) only [Act.put, List.setIfInBounds_toArray, List.set_cons_zero, List.set_cons_succ, List.getElem_toArray]
    try simp only [List.getElem_cons_succ]
    try simp only [List.getElem_cons_zero]
    refine wpAnyH_done (by kernel_rfl) (NoPanic.normal ?_) _
    go_wp2
    have fin := pu_put (.deferred none) hbg (by omega) kg' ho' hbel hD hDb
    refine ⟨by simp, .inl ⟨_, _, rfl, run_takeDeferred hD, ?_⟩⟩
    refine ⟨_, results_none rfl _ _ _, rfl, some ⟨g3, 0, none⟩, cap, ?_⟩
    have e1 : lie1 (b : Int) L (a : Int) = (k : Int) := by unfold lie1; rw [hsl, if_neg (by omega)]
    have e2 : s + (slid1 (b : Int) L (a : Int) - (a : Int)) = s + ((k : Int) - (a : Int) + ((0 : Nat) : Int) * (b : Int)) := by rw [hsl]; simp
    rw [e1, e2]
    exact ⟨fin.1, fin.2.drew⟩
  case q2 =>
    intro D W' hsl ho' hka _ hbel hD hDW
    have hDb : base ≤ D := by have := HSZ.out; simp only [World.size_alloc] at hDW; omega
    clear hDW
    have hbel : Below base w W' := ((HB1.out.mono (by omega)).trans ((((Below.refl base W1).alloc (by have := HSZ.out; omega) _).alloc (by have := HSZ.out; simp; omega) _).alloc (by have := HSZ.out; simp; omega) _)).trans hbel
    have m0 : Bk W' w.heap.size 119 #[.pointer (some ⟨g, 0, none⟩)] := hka _ _ _ (((e0.alloc _).alloc _).alloc _)
    have m2 : Bk W' (w.heap.size + 1 + 1) 126 (takenArr L) := hka _ _ _ (((e2.alloc _).alloc _).alloc _)
    have kg' : Bk W' g 128 (puCells (b : Int) false L A n c s) := hka _ _ _ (((kg.alloc _).alloc _).alloc _)
    have hmix : Tryz.prog.follows .mixedOrders = true := by kernel_rfl
    have heq := eql_taken L L true (by simp)
    go_wp2
    rw [rounds_succ]
    go_wp2
    refine wp_region_noPanic ?_
    refine wp_region_held_drew (S := (fun W => W.cell? ⟨w.heap.size, 0, none⟩ = some (.pointer (some ⟨g, 0, none⟩)) ∧ W.cell? ⟨g, 2, none⟩ = some (.int .i64 (tkI L 0)) ∧ W.cell? ⟨g, 3, none⟩ = some (.int .i64 (tkI L 1)) ∧ W.cell? ⟨g, 4, none⟩ = some (.int .i64 (tkI L 2)) ∧ W.cell? ⟨g, 5, none⟩ = some (.int .i64 (tkI L 3)) ∧ W.cell? ⟨g, 6, none⟩ = some (.int .i64 (tkI L 4)) ∧ W.cell? ⟨g, 7, none⟩ = some (.int .i64 (tkI L 5)) ∧ W.cell? ⟨g, 8, none⟩ = some (.int .i64 (tkI L 6)) ∧ W.cell? ⟨g, 9, none⟩ = some (.int .i64 (tkI L 7)) ∧
      W.cell? ⟨w.heap.size + 1 + 1, 0, none⟩ = some (.int .i64 (tkI L 0)) ∧ W.cell? ⟨w.heap.size + 1 + 1, 1, none⟩ = some (.int .i64 (tkI L 1)) ∧ W.cell? ⟨w.heap.size + 1 + 1, 2, none⟩ = some (.int .i64 (tkI L 2)) ∧ W.cell? ⟨w.heap.size + 1 + 1, 3, none⟩ = some (.int .i64 (tkI L 3)) ∧ W.cell? ⟨w.heap.size + 1 + 1, 4, none⟩ = some (.int .i64 (tkI L 4)) ∧ W.cell? ⟨w.heap.size + 1 + 1, 5, none⟩ = some (.int .i64 (tkI L 5)) ∧ W.cell? ⟨w.heap.size + 1 + 1, 6, none⟩ = some (.int .i64 (tkI L 6)) ∧ W.cell? ⟨w.heap.size + 1 + 1, 7, none⟩ = some (.int .i64 (tkI L 7)))) hmix ⟨m0.cell 0, kg'.cell 2, kg'.cell 3, kg'.cell 4, kg'.cell 5, kg'.cell 6, kg'.cell 7, kg'.cell 8, kg'.cell 9, m2.cell 0, m2.cell 1, m2.cell 2, m2.cell 3, m2.cell 4, m2.cell 5, m2.cell 6, m2.cell 7⟩ (fun hS => ?_)
    refine wpAnyH_take (i := 0) (v := ?_) rfl (by kernel_rfl) (by kernel_rfl) (by kernel_rfl) (fun _ _ _ h => h) (Or.inl ⟨by rfl, ?_⟩) (by assumption) ?_
    rotate_left
    · intro w hSw
      (try dsimp only at hSw)
      go_simp
      (try with_reducible rfl)
    try simp (maxSteps := 10000000) only [Act.put, List.setIfInBounds_toArray, List.getElem_toArray]
    try simp only [List.getElem_cons_succ]
    try simp only [List.getElem_cons_zero]
    refine wpAnyH_take (i := 1) (v := ?_) rfl (by kernel_rfl) (by kernel_rfl) (by kernel_rfl) (fun _ _ _ h => h) (Or.inl ⟨by rfl, ?_⟩) (by assumption) ?_
    rotate_left
    · intro w hSw
      (try dsimp only at hSw)
      go_simp
      (try with_reducible rfl)
    try simp (maxSteps := 10000000) only [Act.put, List.setIfInBounds_toArray, List.set_cons_zero, List.set_cons_succ, List.getElem_toArray]
    try simp only [List.getElem_cons_succ]
    try simp only [List.getElem_cons_zero]
    refine wpAnyH_take (i := 2) (v := ?_) rfl (by kernel_rfl) (by kernel_rfl) (by kernel_rfl) (fun _ _ _ h => h) (Or.inl ⟨by rfl, ?_⟩) (by assumption) ?_
    rotate_left
    · intro w hSw
      (try dsimp only at hSw)
      go_simp
      (try with_reducible rfl)
    try simp (maxSteps := 10000000) only [Act.put, List.setIfInBounds_toArray, List.set_cons_zero, List.set_cons_succ, List.getElem_toArray]
    try simp only [List.getElem_cons_succ]
    try simp only [List.getElem_cons_zero]
    refine wpAnyH_take (i := 3) (v := ?_) rfl (by kernel_rfl) (by kernel_rfl) (by kernel_rfl) (fun _ _ _ h => h) (Or.inl ⟨by rfl, ?_⟩) (by assumption) ?_
    rotate_left
    · intro w hSw
      (try dsimp only at hSw)
      go_simp
      (try with_reducible rfl)
    try simp (maxSteps := 10000000) only [Act.put, List.setIfInBounds_toArray, List.set_cons_zero, List.set_cons_succ, List.getElem_toArray]
    try simp only [List.getElem_cons_succ]
    try simp only [List.getElem_cons_zero]
    refine wpAnyH_take (i := 4) (v := ?_) rfl (by kernel_rfl) (by kernel_rfl) (by kernel_rfl) (fun _ _ _ h => h) (Or.inl ⟨by rfl, ?_⟩) (by assumption) ?_
    rotate_left
    · intro w hSw
      (try dsimp only at hSw)
      go_simp
      (try with_reducible rfl)
    try simp (maxSteps := 10000000) only [Act.put, List.setIfInBounds_toArray, List.set_cons_zero, List.set_cons_succ, List.getElem_toArray]
    try simp only [List.getElem_cons_succ]
    try simp only [List.getElem_cons_zero]
    refine wpAnyH_take (i := 5) (v := ?_) rfl (by kernel_rfl) (by kernel_rfl) (by kernel_rfl) (fun _ _ _ h => h) (Or.inl ⟨by rfl, ?_⟩) (by assumption) ?_
    rotate_left
    · intro w hSw
      (try dsimp only at hSw)
      go_simp
      (try with_reducible rfl)
    try simp (maxSteps := 10000000) only [Act.put, List.setIfInBounds_toArray, List.set_cons_zero, List.set_cons_succ, List.getElem_toArray]
    try simp only [List.getElem_cons_succ]
    try simp only [List.getElem_cons_zero]
    refine wpAnyH_done (by kernel_rfl) (NoPanic.normal ?_) _
    have hr0 := ho'.bk_ne m0 (by decide)
    have hrg := ho'.bk_ne kg' (by decide)
    have hneg : g ≠ w.heap.size := by omega
    have m1 : Bk W' (w.heap.size + 1) 3 #[.int .i64 (a : Int)] := hka _ _ _ (((e1.alloc _).alloc _).alloc _)
    clear heq m2 hS
    have hc0 : W'.cell? ⟨w.heap.size, 0, none⟩ = some (.pointer (some ⟨g, 0, none⟩)) := m0.cell 0
    have gl : W'.cell? ⟨g, 10, none⟩ = some (.slice A n c) := kg'.cell 10
    have hP0 : w.heap.size < W'.heap.size := m0.lt
    have hg2 : g < W'.heap.size := kg'.lt
    have glA : (W'.alloc (.cells #[.int .i64 (-1)] 3)).cell? ⟨g, 10, none⟩ = some (.slice A n c) := cell_old _ gl
    go_wp2
    refine wp_region_noPanic ?_
    refine wp_region_held_drew (S := (fun W => W.cell? ⟨w.heap.size, 0, none⟩ = some (.pointer (some ⟨g, 0, none⟩)))) hmix hc0 (fun hS => ?_)
    refine wpAnyH_take (i := 0) (v := ?_) rfl (by kernel_rfl) (by kernel_rfl) (by kernel_rfl) (fun _ _ _ h => h) (Or.inl ⟨by rfl, ?_⟩) (by assumption) ?_
    rotate_left
    · intro w hSw
      (try dsimp only at hSw)
      go_simp
      (try with_reducible rfl)
    try simp (maxSteps := 10000000) only [Act.put, List.setIfInBounds_toArray, List.set_cons_zero, List.set_cons_succ, List.getElem_toArray]
    try simp only [List.getElem_cons_succ]
    try simp only [List.getElem_cons_zero]
    refine wpAnyH_take (i := 1) (v := ?_) rfl (by kernel_rfl) (by kernel_rfl) (by kernel_rfl) (fun _ _ _ h => h) (Or.inl ⟨by rfl, ?_⟩) (by assumption) ?_
    rotate_left
    · intro w hSw
      (try dsimp only at hSw)
      go_simp
      (try with_reducible rfl)
    try simp (maxSteps := 10000000) only [Act.put, List.setIfInBounds_toArray, List.set_cons_zero, List.set_cons_succ, List.getElem_toArray]
    try simp only [List.getElem_cons_succ]
    try simp only [List.getElem_cons_zero]
    refine wpAnyH_take (i := 2) (v := ?_) rfl (by kernel_rfl) (by kernel_rfl) (by kernel_rfl) (fun _ _ _ h => h) (Or.inl ⟨by rfl, ?_⟩) (by assumption) ?_
    rotate_left
    · intro w hSw
      (try dsimp only at hSw)
      go_simp
      (try with_reducible rfl)
    try simp (maxSteps := 10000000) only [Act.put, List.setIfInBounds_toArray, List.set_cons_zero, List.set_cons_succ, List.getElem_toArray]
    try simp only [List.getElem_cons_succ]
    try simp only [List.getElem_cons_zero]
    refine wpAnyH_take (i := 3) (v := ?_) rfl (by kernel_rfl) (by kernel_rfl) (by kernel_rfl) (fun _ _ _ h => h) (Or.inl ⟨by rfl, ?_⟩) (by assumption) ?_
    rotate_left
    · intro w hSw
      (try dsimp only at hSw)
      go_simp
      (try with_reducible rfl)
    try simp (maxSteps := 10000000) only [Act.put, List.setIfInBounds_toArray, List.set_cons_zero, List.set_cons_succ, List.getElem_toArray]
    try simp only [List.getElem_cons_succ]
    try simp only [List.getElem_cons_zero]
    refine wpAnyH_ready (rs := [4, 5]) (by kernel_rfl) (by simp) ?_
    refine AllReadyH.cons rfl (fun K hK => ?_) (AllReadyH.cons rfl (fun K hK => ?_) AllReadyH.nil)
    go_simp
    refine hK.out _ _ ?_ (fun hS => ?_)
    · exact hS
    clear hK K
    try simp (maxSteps := 10000000) only [Act.put, List.setIfInBounds_toArray, List.set_cons_zero, List.set_cons_succ, List.getElem_toArray, List.getElem_cons_zero, List.getElem_cons_succ]
    refine wpAnyH_ready (rs := [5]) (by kernel_rfl) (by simp) ?_
    refine AllReadyH.cons rfl (fun K hK => ?_) AllReadyH.nil
    go_simp
    refine hK.out _ _ ?_ (fun hS => ?_)
    · exact cell_old _ hc0
    clear hK K
    try simp (maxSteps := 10000000) only [Act.put, List.setIfInBounds_toArray, List.set_cons_zero, List.set_cons_succ, List.getElem_toArray]
    try simp only [List.getElem_cons_succ]
    try simp only [List.getElem_cons_zero]
    rotate_left
    go_simp
    refine hK.out _ _ ?_ (fun hS => ?_)
    · exact cell_old _ hc0
    clear hK K
    try simp (maxSteps := 10000000) only [Act.put, List.setIfInBounds_toArray, List.set_cons_zero, List.set_cons_succ, List.getElem_toArray, List.getElem_cons_zero, List.getElem_cons_succ]
    refine wpAnyH_ready (rs := [4]) (by kernel_rfl) (by simp) ?_
    refine AllReadyH.cons rfl (fun K hK => ?_) AllReadyH.nil
    go_simp
    refine hK.out _ _ ?_ (fun hS => ?_)
    · exact hS
    clear hK K
    try simp (maxSteps := 10000000) only [Act.put, List.setIfInBounds_toArray, List.set_cons_zero, List.set_cons_succ, List.getElem_toArray]
    try simp only [List.getElem_cons_succ]
    try simp only [List.getElem_cons_zero]
    all_goals
      refine wpAnyH_ready (rs := [6]) (by kernel_rfl) (by simp) ?_
      refine AllReadyH.cons rfl (fun K hK => ?_) AllReadyH.nil
      refine step_push rfl (.tmp 86) (.tmp 87) rfl base A n c L rfl (ho'.alloc _).drew ⟨W'.heap.size, 0, none⟩ 1 (-1) rfl (cell_new1 W' _ _) (by omega) (by show base ≤ (W'.alloc _).heap.size; rw [World.size_alloc]; omega) ?_
      intro g3 cap W3 ho3 hg3
      refine hK.out _ _ ?_ (fun hS => ?_)
      · exact (World.grownBy.cell hg3 (cell_old _ hc0) hr0)
      clear hK K
      try simp (maxSteps := 10000000) only [Act.put, List.setIfInBounds_toArray, List.set_cons_zero, List.set_cons_succ, List.getElem_toArray, List.getElem_cons_zero, List.getElem_cons_succ]
      have kg3 : Bk W3 g 128 (puCells (b : Int) false L A n c s) := by first | exact ((kg'.alloc _).drew).grown hg3 hrg | exact ((kg'.alloc _).drew.drew).grown hg3 hrg | exact ((kg'.drew.alloc _).drew).grown hg3 hrg
      have O3 : Only W' W3 g (A.map Addr.block) := by first | exact (((Only.refl W' g _).alloc _).drew).grown hg3 rfl | exact (((Only.refl W' g _).alloc _).drew.drew).grown hg3 rfl | exact (((Only.refl W' g _).drew.alloc _).drew).grown hg3 rfl
      have f10 := kg3.frozen 10
      have g10 : (W3.cell? ⟨g, 10, none⟩) = some (.slice A n c) := (World.grownBy.cell hg3 (cell_old _ gl) hrg)
      refine wpAnyH_take (i := 7) (v := ?_) rfl (by kernel_rfl) (by kernel_rfl) (by kernel_rfl) (fun _ _ _ h => h) (Or.inl ⟨by rfl, ?_⟩) (by assumption) ?_
      rotate_left
      · intro w hSw
        (try dsimp only at hSw)
        go_simp
        (try with_reducible rfl)
      try simp (maxSteps := 10000000) only [Act.put, List.setIfInBounds_toArray, List.getElem_toArray]
      try simp only [List.getElem_cons_succ]
      try simp only [List.getElem_cons_zero]
      refine wpAnyH_take (i := 8) (v := ?_) rfl (by kernel_rfl) (by kernel_rfl) (by kernel_rfl) (fun _ _ _ h => h) (Or.inl ⟨by rfl, ?_⟩) (by assumption) ?_
      rotate_left
      · intro w hSw
        (try dsimp only at hSw)
        go_simp
        (try with_reducible rfl)
      try simp (maxSteps := 10000000) only [Act.put, List.setIfInBounds_toArray, List.set_cons_zero, List.set_cons_succ, List.getElem_toArray]
      try simp only [List.getElem_cons_succ]
      try simp only [List.getElem_cons_zero]
      refine wpAnyH_ready (rs := [9]) (by kernel_rfl) (by simp) ?_
      refine AllReadyH.cons rfl (fun K hK => ?_) AllReadyH.nil
      go_simp
      refine hK.out _ _ ?_ (fun hS => ?_)
      · go_simp
      clear hK K
      try simp (maxSteps := 10000000) only [Act.put, List.setIfInBounds_toArray, List.set_cons_zero, List.set_cons_succ, List.getElem_toArray]
      try simp only [List.getElem_cons_succ]
      try simp only [List.getElem_cons_zero]
      refine wpAnyH_done (by kernel_rfl) (NoPanic.normal ?_) _
      obtain ⟨W4, hW4⟩ : ∃ W4 : World, (W3.setCell ⟨g, 10, none⟩ (.slice (some ⟨g3, 0, none⟩) (n + 1) cap)) = W4 := ⟨_, rfl⟩
      have O4 : Only W' W4 g (A.map Addr.block) := by rw [← hW4]; exact O3.setCell _ _
      have kg4 := kg3.set_ 10 (.slice (some ⟨g3, 0, none⟩) (n + 1) cap)
      rw [hW4] at kg4
      have ho4 : Oi W4 base (some ⟨g3, 0, none⟩) (n + 1) cap (L ++ [(-1 : Int)]) := by rw [← hW4]; exact ho3.setOther (p := ⟨g, 10, none⟩) (ho3.bk_ne kg3 (by decide)) _
      rw [hW4]
      clear hW4 hS gl glA g10 f10 hP0 hg2
      have hr1 : some (w.heap.size + 1) ≠ A.map Addr.block := fun h => by have := hrow _ h.symm; omega
      have d0 : W4.cell? ⟨w.heap.size, 0, none⟩ = some (.pointer (some ⟨g, 0, none⟩)) := (O4.bk m0 (Ne.symm hneg) hr0).cell 0
      have d1 : W4.cell? ⟨w.heap.size + 1, 0, none⟩ = some (.int .i64 (a : Int)) := (O4.bk m1 (by omega) hr1).cell 0
      have g0 : W4.cell? ⟨g, 0, none⟩ = some (.int .i64 (b : Int)) := (kg4.cell 0).trans (by simp [puCells])
      have g11 : W4.cell? ⟨g, 11, none⟩ = some (.int .i64 s) := (kg4.cell 11).trans (by simp [puCells])
      have f11 := kg4.frozen 11
      have hw1 : IntKind.i64.wrap ((b : Int) - (a : Int)) = (b : Int) - (a : Int) := IntWalk.i64_in _ (by omega)
      have hw2 : IntKind.i64.wrap (s + ((b : Int) - (a : Int))) = s + ((b : Int) - (a : Int)) := IntWalk.i64_in _ (by omega)
      go_wp2
      refine wp_region_noPanic ?_
      refine wp_region_held_drew (S := (fun W => W.cell? ⟨w.heap.size, 0, none⟩ = some (.pointer (some ⟨g, 0, none⟩)) ∧ W.cell? ⟨w.heap.size + 1, 0, none⟩ = some (.int .i64 (a : Int)) ∧ W.cell? ⟨g, 0, none⟩ = some (.int .i64 (b : Int)))) hmix ⟨d0, d1, g0⟩ (fun hS => ?_)
      refine wpAnyH_take (i := 0) (v := ?_) rfl (by kernel_rfl) (by kernel_rfl) (by kernel_rfl) (fun _ _ _ h => h) (Or.inl ⟨by rfl, ?_⟩) (by assumption) ?_
      rotate_left
      · intro w hSw
        (try dsimp only at hSw)
        go_simp
        (try with_reducible rfl)
      try simp (maxSteps := 10000000) only [Act.put, List.setIfInBounds_toArray, List.getElem_toArray]
      try simp only [List.getElem_cons_succ]
      try simp only [List.getElem_cons_zero]
      refine wpAnyH_take (i := 1) (v := ?_) rfl (by kernel_rfl) (by kernel_rfl) (by kernel_rfl) (fun _ _ _ h => h) (Or.inl ⟨by rfl, ?_⟩) (by assumption) ?_
      rotate_left
      · intro w hSw
        (try dsimp only at hSw)
        go_simp
        (try with_reducible rfl)
      try simp (maxSteps := 10000000) only [Act.put, List.setIfInBounds_toArray, List.set_cons_zero, List.set_cons_succ, List.getElem_toArray]
      try simp only [List.getElem_cons_succ]
      try simp only [List.getElem_cons_zero]
      refine wpAnyH_take (i := 2) (v := ?_) rfl (by kernel_rfl) (by kernel_rfl) (by kernel_rfl) (fun _ _ _ h => h) (Or.inl ⟨by rfl, ?_⟩) (by assumption) ?_
      rotate_left
      · intro w hSw
        (try dsimp only at hSw)
        go_simp
        (try with_reducible rfl)
      try simp (maxSteps := 10000000) only [Act.put, List.setIfInBounds_toArray, List.set_cons_zero, List.set_cons_succ, List.getElem_toArray]
      try simp only [List.getElem_cons_succ]
      try simp only [List.getElem_cons_zero]
      refine wpAnyH_take (i := 4) (v := ?_) rfl (by kernel_rfl) (by kernel_rfl) (by kernel_rfl) (fun _ _ _ h => h) (Or.inl ⟨by rfl, ?_⟩) (by assumption) ?_
      rotate_left
      · intro w hSw
        (try dsimp only at hSw)
        go_simp
        (try with_reducible rfl)
      try simp (maxSteps := 10000000) only [Act.put, List.setIfInBounds_toArray, List.set_cons_zero, List.set_cons_succ, List.getElem_toArray]
      try simp only [List.getElem_cons_succ]
      try simp only [List.getElem_cons_zero]
      refine wpAnyH_take (i := 5) (v := ?_) rfl (by kernel_rfl) (by kernel_rfl) (by kernel_rfl) (fun _ _ _ h => h) (Or.inl ⟨by rfl, ?_⟩) (by assumption) ?_
      rotate_left
      · intro w hSw
        (try dsimp only at hSw)
        go_simp
        (try with_reducible rfl)
      try simp (maxSteps := 10000000) only [Act.put, List.setIfInBounds_toArray, List.set_cons_zero, List.set_cons_succ, List.getElem_toArray]
      try simp only [List.getElem_cons_succ]
      try simp only [List.getElem_cons_zero]
      refine wpAnyH_take (i := 6) (v := ?_) rfl (by kernel_rfl) (by kernel_rfl) (by kernel_rfl) (fun _ _ _ h => h) (Or.inl ⟨by rfl, ?_⟩) (by assumption) ?_
      rotate_left
      · intro w hSw
        (try dsimp only at hSw)
        go_simp
        (try with_reducible rfl)
      try simp (maxSteps := 10000000) only [Act.put, List.setIfInBounds_toArray, List.set_cons_zero, List.set_cons_succ, List.getElem_toArray]
      try simp only [List.getElem_cons_succ]
      try simp only [List.getElem_cons_zero]
      refine wpAnyH_take (i := 7) (v := ?_) rfl (by kernel_rfl) (by kernel_rfl) (by kernel_rfl) (fun _ _ _ h => h) (Or.inl ⟨by rfl, ?_⟩) (by assumption) ?_
      rotate_left
      · intro w hSw
        (try dsimp only at hSw)
        go_simp
        (try with_reducible rfl)
      try simp (maxSteps := 10000000) only [Act.put, List.setIfInBounds_toArray, List.set_cons_zero, List.set_cons_succ, List.getElem_toArray]
      try simp only [List.getElem_cons_succ]
      try simp only [List.getElem_cons_zero]
      refine wpAnyH_take (i := 8) (v := ?_) rfl (by kernel_rfl) (by kernel_rfl) (by kernel_rfl) (fun _ _ _ h => h) (Or.inl ⟨by rfl, ?_⟩) (by assumption) ?_
      rotate_left
      · intro w hSw
        (try dsimp only at hSw)
        go_simp
        (try with_reducible rfl)
      try simp (maxSteps := 10000000) only [Act.put, List.setIfInBounds_toArray, List.set_cons_zero, List.set_cons_succ, List.getElem_toArray]
      try simp only [List.getElem_cons_succ]
      try simp only [List.getElem_cons_zero]
      refine wpAnyH_take (i := 9) (v := ?_) rfl (by kernel_rfl) (by kernel_rfl) (by kernel_rfl) (fun _ _ _ h => h) (Or.inl ⟨by rfl, ?_⟩) (by assumption) ?_
      rotate_left
      · intro w hSw
        (try dsimp only at hSw)
        go_simp
        (try with_reducible rfl)
      try simp (maxSteps := 10000000) only [Act.put, List.setIfInBounds_toArray, List.set_cons_zero, List.set_cons_succ, List.getElem_toArray]
      try simp only [List.getElem_cons_succ]
      try simp only [List.getElem_cons_zero]
      refine wpAnyH_take (i := 10) (v := ?_) rfl (by kernel_rfl) (by kernel_rfl) (by kernel_rfl) (fun _ _ _ h => h) (Or.inl ⟨by rfl, ?_⟩) (by assumption) ?_
      rotate_left
      · intro w hSw
        (try dsimp only at hSw)
        go_simp
        (try with_reducible rfl)
      try simp (maxSteps := 10000000) only [Act.put, List.setIfInBounds_toArray, List.set_cons_zero, List.set_cons_succ, List.getElem_toArray]
      try simp only [List.getElem_cons_succ]
      try simp only [List.getElem_cons_zero]
      refine wpAnyH_ready (rs := [3]) (by kernel_rfl) (by simp) ?_
      refine AllReadyH.cons rfl (fun K hK => ?_) AllReadyH.nil
      go_simp
      refine hK.out _ _ ?_ (fun hS => ?_)
      · exact hS
      clear hK K
      try simp (maxSteps := 10000000) only [Act.put, List.setIfInBounds_toArray, List.set_cons_zero, List.set_cons_succ, List.getElem_toArray]
      try simp only [List.getElem_cons_succ]
      try simp only [List.getElem_cons_zero]
      refine wpAnyH_take (i := 11) (v := ?_) rfl (by kernel_rfl) (by kernel_rfl) (by kernel_rfl) (fun _ _ _ h => h) (Or.inl ⟨by rfl, ?_⟩) (by assumption) ?_
      rotate_left
      · intro w hSw
        (try dsimp only at hSw)
        go_simp
        (try with_reducible rfl)
      try simp (maxSteps := 10000000) only [Act.put, List.setIfInBounds_toArray, List.getElem_toArray]
      try simp only [List.getElem_cons_succ]
      try simp only [List.getElem_cons_zero]
      refine wpAnyH_take (i := 12) (v := ?_) rfl (by kernel_rfl) (by kernel_rfl) (by kernel_rfl) (fun _ _ _ h => h) (Or.inl ⟨by rfl, ?_⟩) (by assumption) ?_
      rotate_left
      · intro w hSw
        (try dsimp only at hSw)
        go_simp
        (try with_reducible rfl)
      try simp (maxSteps := 10000000) only [Act.put, List.setIfInBounds_toArray, List.set_cons_zero, List.set_cons_succ, List.getElem_toArray]
      try simp only [List.getElem_cons_succ]
      try simp only [List.getElem_cons_zero]
      refine wpAnyH_take (i := 13) (v := ?_) rfl (by kernel_rfl) (by kernel_rfl) (by kernel_rfl) (fun _ _ _ h => h) (Or.inl ⟨by rfl, ?_⟩) (by assumption) ?_
      rotate_left
      · intro w hSw
        (try dsimp only at hSw)
        go_simp
        (try with_reducible rfl)
      try simp (maxSteps := 10000000) only [Act.put, List.setIfInBounds_toArray, List.set_cons_zero, List.set_cons_succ, List.getElem_toArray]
      try simp only [List.getElem_cons_succ]
      try simp only [List.getElem_cons_zero]
      refine wpAnyH_ready (rs := [14]) (by kernel_rfl) (by simp) ?_
      refine AllReadyH.cons rfl (fun K hK => ?_) AllReadyH.nil
      go_simp
      refine hK.out _ _ ?_ (fun hS => ?_)
      · go_simp
      clear hK K
      try simp (maxSteps := 10000000) only [Act.put, List.setIfInBounds_toArray, List.set_cons_zero, List.set_cons_succ, List.getElem_toArray]
      try simp only [List.getElem_cons_succ]
      try simp only [List.getElem_cons_zero]
      refine wpAnyH_done (by kernel_rfl) (NoPanic.normal ?_) _
      go_wp2
      have kg5 := kg4.set_ 11 (.int .i64 (s + ((b : Int) - (a : Int))))
      rw [pu_fall] at kg5
      have ho5 := ho4.setOther (p := ⟨g, 11, none⟩) (ho4.bk_ne kg4 (by decide)) (.int .i64 (s + ((b : Int) - (a : Int))))
      have O5 := O4.setCell 11 (.int .i64 (s + ((b : Int) - (a : Int))))
      have hD5 : (W4.setCell ⟨g, 11, none⟩ (.int .i64 (s + ((b : Int) - (a : Int))))).heap[D]? = some (.deferred (some [])) := (O5.keeps kg' ho' 0).same D _ (Nat.zero_le _) hD rfl
      have hb5 : Below base w (W4.setCell ⟨g, 11, none⟩ (.int .i64 (s + ((b : Int) - (a : Int))))) := hbel.trans (O5.below hbg (fun k hk => (ho'.lt k hk).1) (by have := kg'.lt; omega))
      have fin := pu_put (.deferred none) hbg (by omega) kg5 ho5 hb5 hD5 hDb
      refine ⟨by simp, .inl ⟨_, _, rfl, run_takeDeferred hD5, ?_⟩⟩
      refine ⟨_, results_none rfl _ _ _, rfl, some ⟨g3, 0, none⟩, cap, ?_⟩
      have e1 : lie1 (b : Int) L (a : Int) = -1 := by unfold lie1; rw [hsl, if_pos rfl]
      have e2 : s + (slid1 (b : Int) L (a : Int) - (a : Int)) = s + ((b : Int) - (a : Int)) := by rw [hsl]
      rw [e1, e2]
      exact ⟨fin.1, fin.2.drew⟩
end Go.Proofs.YtibmpjhffeinoaaGreat

namespace Go.Proofs.YtibmpjhffeinoaaGreat
open Go.RowKit Go.Shelf
attribute [local go_sem] Oper.semAt_some


def wlie (b : Int) (L : List Int) (d : Int) : Int := if slid1 b L d = b then slid1 b L 0 else slid1 b L d
def wfar (b : Int) (L : List Int) (d : Int) : Int := if slid1 b L d = b then slid1 b L 0 - d + b else slid1 b L d - d
set_option maxRecDepth 100000 in
set_option maxHeartbeats 2000000 in
theorem drop_wheel (b g base a : Nat) (A : Option Addr) (n c : Nat) (L : List Int) (s : Int) (w : World) (hb8 : b ≤ 8) (ha : a < b) (hn : n ≤ 1048576) (hs : 0 ≤ s ∧ s ≤ 1048576)
    (hfr : slid1 (b : Int) L 0 < (b : Int)) (hp : Pu w base g (b : Int) true A n c L s) :
    Calls Tryz.prog 167 #[.pointer (some ⟨g, 0, none⟩), .int .i64 (a : Int)] w fun e w' => e = .returned (.tuple #[]) ∧ ∃ (A' : Option Addr) (c' : Nat), Pu w' base g (b : Int) true A' (n + 1) c' (L ++ [wlie (b : Int) L (a : Int)]) (s + wfar (b : Int) L (a : Int)) ∧ Below base w w' := by
  obtain ⟨hbg, hpu, ho⟩ := hp
  have hgl : g < w.heap.size := (Array.getElem?_eq_some_iff.1 hpu).1
  have hmf : ∀ (fn : Fn) (first cap : Array Value) (w : World), (Instr.makeFunc fn first cap).run Tryz.prog w = .ok (.func fn first cap) w := fun _ _ _ _ => rfl
  have c0 : w.cell? ⟨g, 0, none⟩ = some (.int .i64 (b : Int)) := pu_cell hpu 0
  have c1 : w.cell? ⟨g, 1, none⟩ = some (.bool true) := pu_cell hpu 1
  have t0 : w.cell? ⟨g, 2, none⟩ = some (.int .i64 (tkI L 0)) := pu_cell hpu 2
  have t1 : w.cell? ⟨g, 3, none⟩ = some (.int .i64 (tkI L 1)) := pu_cell hpu 3
  have t2 : w.cell? ⟨g, 4, none⟩ = some (.int .i64 (tkI L 2)) := pu_cell hpu 4
  have t3 : w.cell? ⟨g, 5, none⟩ = some (.int .i64 (tkI L 3)) := pu_cell hpu 5
  have t4 : w.cell? ⟨g, 6, none⟩ = some (.int .i64 (tkI L 4)) := pu_cell hpu 6
  have t5 : w.cell? ⟨g, 7, none⟩ = some (.int .i64 (tkI L 5)) := pu_cell hpu 7
  have t6 : w.cell? ⟨g, 8, none⟩ = some (.int .i64 (tkI L 6)) := pu_cell hpu 8
  have t7 : w.cell? ⟨g, 9, none⟩ = some (.int .i64 (tkI L 7)) := pu_cell hpu 9
  have hgl1 : g < w.heap.size + 1 := by omega
  have hgl2 : g < w.heap.size + 1 + 1 := by omega
  have hgl3 : g < w.heap.size + 1 + 1 + 1 := by omega
  have hgl4 : g < w.heap.size + 1 + 1 + 1 + 1 := by omega
  have HPU := Lib.hid hpu
  clear hpu
  refine (callsIn_wide (n := 5)).1 ?_
  refine callsIn_of_wp_marks Tryz.func167 rfl trivial ?_ rfl
  simp only [Tryz.ntmps167, List.size_toArray, List.length_cons, List.length_nil, Nat.reduceAdd, Nat.reduceSub, Array.replicate_succ, Array.replicate_zero, List.push_toArray, List.append_toArray, List.nil_append, List.cons_append]
  refine wpIn_wide.2 ?_
  go_wp2
  go_step3
  go_wp2
  obtain ⟨C, hC⟩ : ∃ C : Nat, (Question.appendCap 2 1 3).cut (w.tape w.drawn (Question.appendCap 2 1 3)) = C := ⟨_, rfl⟩
  rw [hC]
  clear hC
  obtain ⟨Z, hZ⟩ : ∃ Z : Array Value, Builtin.zeroCells #[Value.int IntKind.i64 0] (C - 2) = Z := ⟨_, rfl⟩
  rw [hZ]
  clear hZ
  have hB1 : Below w.heap.size w (((((((w.alloc (.cells #[.pointer (some ⟨g, 0, none⟩)] 119)).alloc (.cells #[.int .i64 (a : Int)] 3)).alloc (.cells (takenArr L) 126)).alloc (.cells #[.int .i64 (a : Int)] 3)).alloc (.cells #[.int .i64 0] 3)).alloc (.cells ((#[Value.int .i64 (a : Int), Value.int .i64 0] : Array Value) ++ Z) 3)).drew) := by
    refine below_drewN ?_ 1
    exact (((((((Below.refl _ w).alloc (Nat.le_refl _) _).alloc (by simp) _).alloc (by simp; omega) _).alloc (by simp; omega) _).alloc (by simp; omega) _).alloc (by simp; omega) _)
  have e0 : Bk (((((((w.alloc (.cells #[.pointer (some ⟨g, 0, none⟩)] 119)).alloc (.cells #[.int .i64 (a : Int)] 3)).alloc (.cells (takenArr L) 126)).alloc (.cells #[.int .i64 (a : Int)] 3)).alloc (.cells #[.int .i64 0] 3)).alloc (.cells ((#[Value.int .i64 (a : Int), Value.int .i64 0] : Array Value) ++ Z) 3)).drew) _ _ _ := ((((((Bk.new w 119 #[.pointer (some ⟨g, 0, none⟩)]).alloc _).alloc _).alloc _).alloc _).alloc _)
  have e1 : Bk (((((((w.alloc (.cells #[.pointer (some ⟨g, 0, none⟩)] 119)).alloc (.cells #[.int .i64 (a : Int)] 3)).alloc (.cells (takenArr L) 126)).alloc (.cells #[.int .i64 (a : Int)] 3)).alloc (.cells #[.int .i64 0] 3)).alloc (.cells ((#[Value.int .i64 (a : Int), Value.int .i64 0] : Array Value) ++ Z) 3)).drew) _ _ _ := (((((Bk.new (w.alloc (.cells #[.pointer (some ⟨g, 0, none⟩)] 119)) 3 #[.int .i64 (a : Int)]).alloc _).alloc _).alloc _).alloc _)
  have e2 : Bk (((((((w.alloc (.cells #[.pointer (some ⟨g, 0, none⟩)] 119)).alloc (.cells #[.int .i64 (a : Int)] 3)).alloc (.cells (takenArr L) 126)).alloc (.cells #[.int .i64 (a : Int)] 3)).alloc (.cells #[.int .i64 0] 3)).alloc (.cells ((#[Value.int .i64 (a : Int), Value.int .i64 0] : Array Value) ++ Z) 3)).drew) _ _ _ := ((((Bk.new ((w.alloc (.cells #[.pointer (some ⟨g, 0, none⟩)] 119)).alloc (.cells #[.int .i64 (a : Int)] 3)) 126 (takenArr L)).alloc _).alloc _).alloc _)
  have e5 : Bk (((((((w.alloc (.cells #[.pointer (some ⟨g, 0, none⟩)] 119)).alloc (.cells #[.int .i64 (a : Int)] 3)).alloc (.cells (takenArr L) 126)).alloc (.cells #[.int .i64 (a : Int)] 3)).alloc (.cells #[.int .i64 0] 3)).alloc (.cells ((#[Value.int .i64 (a : Int), Value.int .i64 0] : Array Value) ++ Z) 3)).drew) _ _ _ := Bk.new (((((w.alloc (.cells #[.pointer (some ⟨g, 0, none⟩)] 119)).alloc (.cells #[.int .i64 (a : Int)] 3)).alloc (.cells (takenArr L) 126)).alloc (.cells #[.int .i64 (a : Int)] 3)).alloc (.cells #[.int .i64 0] 3)) 3 ((#[Value.int .i64 (a : Int), Value.int .i64 0] : Array Value) ++ Z)
  simp only [World.size_alloc] at e1 e2 e5
  obtain ⟨W1, hW1⟩ : ∃ W1 : World, (((((((w.alloc (.cells #[.pointer (some ⟨g, 0, none⟩)] 119)).alloc (.cells #[.int .i64 (a : Int)] 3)).alloc (.cells (takenArr L) 126)).alloc (.cells #[.int .i64 (a : Int)] 3)).alloc (.cells #[.int .i64 0] 3)).alloc (.cells ((#[Value.int .i64 (a : Int), Value.int .i64 0] : Array Value) ++ Z) 3)).drew) = W1 := ⟨_, rfl⟩
  have hsz : W1.heap.size = w.heap.size + 6 := by rw [← hW1]; simp [World.drew]
  rw [hW1] at hB1 e0 e1 e2 e5
  unfold takenArr at hW1
  rw [hW1]
  clear hW1
  have kg : Bk W1 g 128 (puCells (b : Int) true L A n c s) := (hB1.block g hgl).trans HPU.out
  have ho1 := ho.below hB1
  have HB1 := Lib.hid hB1
  have HSZ := Lib.hid hsz
  have b5 : W1.cell? ⟨w.heap.size + 1 + 1 + 1 + 1 + 1, 0, none⟩ = some (.int .i64 (a : Int)) := (e5.cell 0).trans (by rw [Array.getElem?_append_left (by simp)]; rfl)
  clear hB1 hsz c0 c1 t0 t1 t2 t3 t4 t5 t6 t7 hgl1 hgl2 hgl3 hgl4
  go_step3
  go_wp2
  refine wp_loop_rounds 2 ?_
  rw [rounds_succ]
  go_wp2_with (go_at_call 287; refine (pFree _ _ _).mono ?_; rintro e w' ⟨rfl, rfl⟩)
  have f1 := (((Bk.new W1 3 #[.int .i64 ((0 : Nat) : Int)]).alloc (.cells #[.pointer (some ⟨g, 0, none⟩)] 119)).alloc (.cells #[.int .i64 (a : Int)] 3))
  have f2 := ((Bk.new (W1.alloc (.cells #[.int .i64 ((0 : Nat) : Int)] 3)) 119 #[.pointer (some ⟨g, 0, none⟩)]).alloc (.cells #[.int .i64 (a : Int)] 3))
  have f3 := Bk.new ((W1.alloc (.cells #[.int .i64 ((0 : Nat) : Int)] 3)).alloc (.cells #[.pointer (some ⟨g, 0, none⟩)] 119)) 3 #[.int .i64 (a : Int)]
  simp only [World.size_alloc] at f2 f3
  have hrow : ∀ k, A.map Addr.block = some k → k < w.heap.size := fun k hk => (ho.lt k hk).2
  refine drop_range b g base w.heap.size (w.heap.size + 1) W1.heap.size (W1.heap.size + 1 + 1) (W1.heap.size + 1) a 0 a true A n c L s _ _ _ _ _ _ _ _ _ _ _ _ _ _ _ _ _ _ _ _ _ _ _ _ _ _ _ _ _ _ _ _ _ _ _ _ _ _ _ _ _ _ _ _ _ _ _ _ _ _ _ _ _ _ _ _ _ _ _ _ _ _ _ _ _ _ _ _ _ _ _ _ _ _ _ _ _ _ _ _ _ _ _ _ _ _ _ _ _ _ _ _ _ _ _ _ _ _ _ _ _ _ _ _
    hbg hb8 (by omega) (by omega) (by omega) hn hs (((e0.alloc _).alloc _).alloc _) (((e1.alloc _).alloc _).alloc _) f1 f3 f2 (((kg.alloc _).alloc _).alloc _) (((ho1.alloc _).alloc _).alloc _)
    (fun h => by have := hrow _ h.symm; omega) (fun h => by have := hrow _ h.symm; have := HSZ.out; omega) ?q1 ?q2
  case q1 =>
    intro k g3 cap D W' hkb hak hsl kg' ho' hkc hkd hbel hD hDW
    have hDb : base ≤ D := by have := HSZ.out; simp only [World.size_alloc] at hDW; omega
    clear hDW
    have hbel : Below base w W' := ((HB1.out.mono (by omega)).trans ((((Below.refl base W1).alloc (by have := HSZ.out; omega) _).alloc (by have := HSZ.out; simp; omega) _).alloc (by have := HSZ.out; simp; omega) _)).trans hbel
    have m0 : Bk W' w.heap.size 119 #[.pointer (some ⟨g, 0, none⟩)] := hkc _ _ _ (by omega) (fun h => by have := hrow _ h.symm; omega) (((e0.alloc _).alloc _).alloc _)
    have m2 : Bk W' (w.heap.size + 1 + 1) 126 (takenArr L) := hkc _ _ _ (by omega) (fun h => by have := hrow _ h.symm; omega) (((e2.alloc _).alloc _).alloc _)
    have hmix : Tryz.prog.follows .mixedOrders = true := by kernel_rfl
    have hkL : (k : Int) ∉ L := by
      intro hm
      have h1 := slid1_go (places := (b : Int)) (L := L) (at_ := (k : Int)) ⟨by omega, hm⟩
      have h2 := (slid1_bd (places := (b : Int)) (L := L) (at_ := (k : Int) + 1) (by omega)).1
      have h3 : slid1 (b : Int) L (k : Int) = k := slid1_fix hsl (by omega) (by omega)
      omega
    have heq := eql_taken (L ++ [(k : Int)]) L false (tk_ne (by omega) hkL)
    go_wp2
    refine wp_region_noPanic ?_
    refine wp_region_held_drew (S := (fun W => W.cell? ⟨w.heap.size, 0, none⟩ = some (.pointer (some ⟨g, 0, none⟩)) ∧ W.cell? ⟨g, 2, none⟩ = some (.int .i64 (tkI (L ++ [(k : Int)]) 0)) ∧ W.cell? ⟨g, 3, none⟩ = some (.int .i64 (tkI (L ++ [(k : Int)]) 1)) ∧ W.cell? ⟨g, 4, none⟩ = some (.int .i64 (tkI (L ++ [(k : Int)]) 2)) ∧ W.cell? ⟨g, 5, none⟩ = some (.int .i64 (tkI (L ++ [(k : Int)]) 3)) ∧ W.cell? ⟨g, 6, none⟩ = some (.int .i64 (tkI (L ++ [(k : Int)]) 4)) ∧ W.cell? ⟨g, 7, none⟩ = some (.int .i64 (tkI (L ++ [(k : Int)]) 5)) ∧ W.cell? ⟨g, 8, none⟩ = some (.int .i64 (tkI (L ++ [(k : Int)]) 6)) ∧ W.cell? ⟨g, 9, none⟩ = some (.int .i64 (tkI (L ++ [(k : Int)]) 7)) ∧
      W.cell? ⟨w.heap.size + 1 + 1, 0, none⟩ = some (.int .i64 (tkI L 0)) ∧ W.cell? ⟨w.heap.size + 1 + 1, 1, none⟩ = some (.int .i64 (tkI L 1)) ∧ W.cell? ⟨w.heap.size + 1 + 1, 2, none⟩ = some (.int .i64 (tkI L 2)) ∧ W.cell? ⟨w.heap.size + 1 + 1, 3, none⟩ = some (.int .i64 (tkI L 3)) ∧ W.cell? ⟨w.heap.size + 1 + 1, 4, none⟩ = some (.int .i64 (tkI L 4)) ∧ W.cell? ⟨w.heap.size + 1 + 1, 5, none⟩ = some (.int .i64 (tkI L 5)) ∧ W.cell? ⟨w.heap.size + 1 + 1, 6, none⟩ = some (.int .i64 (tkI L 6)) ∧ W.cell? ⟨w.heap.size + 1 + 1, 7, none⟩ = some (.int .i64 (tkI L 7)))) hmix ⟨m0.cell 0, kg'.cell 2, kg'.cell 3, kg'.cell 4, kg'.cell 5, kg'.cell 6, kg'.cell 7, kg'.cell 8, kg'.cell 9, m2.cell 0, m2.cell 1, m2.cell 2, m2.cell 3, m2.cell 4, m2.cell 5, m2.cell 6, m2.cell 7⟩ (fun hS => ?_)
    refine wpAnyH_take (i := 0) (v := ?_) rfl (by kernel_rfl) (by kernel_rfl) (by kernel_rfl) (fun _ _ _ h => h) (Or.inl ⟨by rfl, ?_⟩) (by assumption) ?_
    rotate_left
    · intro w hSw
      (try dsimp only at hSw)
      go_simp
      (try with_reducible rfl)
    try simp (maxSteps := 10000000) only [Act.put, List.setIfInBounds_toArray, List.getElem_toArray]
    try simp only [List.getElem_cons_succ]
    try simp only [List.getElem_cons_zero]
    refine wpAnyH_take (i := 1) (v := ?_) rfl (by kernel_rfl) (by kernel_rfl) (by kernel_rfl) (fun _ _ _ h => h) (Or.inl ⟨by rfl, ?_⟩) (by assumption) ?_
    rotate_left
    · intro w hSw
      (try dsimp only at hSw)
      go_simp
      (try with_reducible rfl)
    try simp (maxSteps := 10000000) only [Act.put, List.setIfInBounds_toArray, List.set_cons_zero, List.set_cons_succ, List.getElem_toArray]
    try simp only [List.getElem_cons_succ]
    try simp only [List.getElem_cons_zero]
    refine wpAnyH_take (i := 2) (v := ?_) rfl (by kernel_rfl) (by kernel_rfl) (by kernel_rfl) (fun _ _ _ h => h) (Or.inl ⟨by rfl, ?_⟩) (by assumption) ?_
    rotate_left
    · intro w hSw
      (try dsimp only at hSw)
      go_simp
      (try with_reducible rfl)
    try simp (maxSteps := 10000000) only [Act.put, List.setIfInBounds_toArray, List.set_cons_zero, List.set_cons_succ, List.getElem_toArray]
    try simp only [List.getElem_cons_succ]
    try simp only [List.getElem_cons_zero]
    refine wpAnyH_take (i := 3) (v := ?_) rfl (by kernel_rfl) (by kernel_rfl) (by kernel_rfl) (fun _ _ _ h => h) (Or.inl ⟨by rfl, ?_⟩) (by assumption) ?_
    rotate_left
    · intro w hSw
      (try dsimp only at hSw)
      go_simp
      (try with_reducible rfl)
    try simp (maxSteps := 10000000) only [Act.put, List.setIfInBounds_toArray, List.set_cons_zero, List.set_cons_succ, List.getElem_toArray]
    try simp only [List.getElem_cons_succ]
    try simp only [List.getElem_cons_zero]
    refine wpAnyH_take (i := 4) (v := ?_) rfl (by kernel_rfl) (by kernel_rfl) (by kernel_rfl) (fun _ _ _ h => h) (Or.inl ⟨by rfl, ?_⟩) (by assumption) ?_
    rotate_left
    · intro w hSw
      (try dsimp only at hSw)
      go_simp
      (try with_reducible rfl)
    try simp (maxSteps := 10000000) only [Act.put, List.setIfInBounds_toArray, List.set_cons_zero, List.set_cons_succ, List.getElem_toArray]
    try simp only [List.getElem_cons_succ]
    try simp only [List.getElem_cons_zero]
    refine wpAnyH_take (i := 5) (v := ?_) rfl (by kernel_rfl) (by kernel_rfl) (by kernel_rfl) (fun _ _ _ h => h) (Or.inl ⟨by rfl, ?_⟩) (by assumption) ?_
    rotate_left
    · intro w hSw
      (try dsimp only at hSw)
      go_simp
      (try with_reducible rfl)
    try simp (maxSteps := 10000000) only [Act.put, List.setIfInBounds_toArray, List.set_cons_zero, List.set_cons_succ, List.getElem_toArray]
    try simp only [List.getElem_cons_succ]
    try simp only [List.getElem_cons_zero]
    refine wpAnyH_done (by kernel_rfl) (NoPanic.normal ?_) _
    go_wp2
    have fin := pu_put (.deferred none) hbg (by omega) kg' ho' hbel hD hDb
    refine ⟨by simp, .inl ⟨_, _, rfl, run_takeDeferred hD, ?_⟩⟩
    refine ⟨_, results_none rfl _ _ _, rfl, some ⟨g3, 0, none⟩, cap, ?_⟩
    have e1 : wlie (b : Int) L (a : Int) = (k : Int) := by unfold wlie; rw [hsl, if_neg (by omega)]
    have e2 : s + wfar (b : Int) L (a : Int) = s + ((k : Int) - (a : Int) + ((0 : Nat) : Int) * (b : Int)) := by unfold wfar; rw [hsl, if_neg (by omega)]; simp
    rw [e1, e2]
    exact ⟨fin.1, fin.2.drew⟩
  case q2 =>
    intro D W' hsl ho' hka hkd hbel hD hDW
    have hDb : base ≤ D := by have := HSZ.out; simp only [World.size_alloc] at hDW; omega
    have hDx : w.heap.size ≤ D := by have := HSZ.out; simp only [World.size_alloc] at hDW; omega
    clear hDW
    have hbel : Below base w W' := ((HB1.out.mono (by omega)).trans ((((Below.refl base W1).alloc (by have := HSZ.out; omega) _).alloc (by have := HSZ.out; simp; omega) _).alloc (by have := HSZ.out; simp; omega) _)).trans hbel
    have m0 : Bk W' w.heap.size 119 #[.pointer (some ⟨g, 0, none⟩)] := hka _ _ _ (((e0.alloc _).alloc _).alloc _)
    have m1 : Bk W' (w.heap.size + 1) 3 #[.int .i64 (a : Int)] := hka _ _ _ (((e1.alloc _).alloc _).alloc _)
    have m2 : Bk W' (w.heap.size + 1 + 1) 126 (takenArr L) := hka _ _ _ (((e2.alloc _).alloc _).alloc _)
    have m5 : Bk W' (w.heap.size + 1 + 1 + 1 + 1 + 1) _ _ := hka _ _ _ (((e5.alloc _).alloc _).alloc _)
    have kg' : Bk W' g 128 (puCells (b : Int) true L A n c s) := hka _ _ _ (((kg.alloc _).alloc _).alloc _)
    have mc : W'.cell? ⟨w.heap.size + 1 + 1 + 1 + 1 + 1, 1, none⟩ = some (.int .i64 0) := (m5.cell 1).trans (by rw [Array.getElem?_append_left (by simp)]; rfl)
    have hP5 : w.heap.size + 1 + 1 + 1 + 1 + 1 < W'.heap.size := m5.lt
    have HKD := Lib.hid hkd
    have HSL := Lib.hid hsl
    have HD := Lib.hid hD
    clear hsl hkd hD hka e0 e1 e2 e5 f1 f2 f3 b5 kg ho1
    go_wp2
    rw [rounds_succ]
    go_wp2_with (go_at_call 287; refine (pFree _ _ _).mono ?_; rintro e w' ⟨rfl, rfl⟩)
    have hbW : base ≤ W'.heap.size := by have := kg'.lt; omega
    have f1 := (((Bk.new W' 3 #[.int .i64 ((1 : Nat) : Int)]).alloc (.cells #[.pointer (some ⟨g, 0, none⟩)] 119)).alloc (.cells #[.int .i64 ((0 : Nat) : Int)] 3))
    have f2 := ((Bk.new (W'.alloc (.cells #[.int .i64 ((1 : Nat) : Int)] 3)) 119 #[.pointer (some ⟨g, 0, none⟩)]).alloc (.cells #[.int .i64 ((0 : Nat) : Int)] 3))
    have f3 := Bk.new ((W'.alloc (.cells #[.int .i64 ((1 : Nat) : Int)] 3)).alloc (.cells #[.pointer (some ⟨g, 0, none⟩)] 119)) 3 #[.int .i64 ((0 : Nat) : Int)]
    simp only [World.size_alloc] at f2 f3
    refine drop_range b g base w.heap.size (w.heap.size + 1) W'.heap.size (W'.heap.size + 1 + 1) (W'.heap.size + 1) a 1 0 true A n c L s _ _ _ _ _ _ _ _ _ _ _ _ _ _ _ _ _ _ _ _ _ _ _ _ _ _ _ _ _ _ _ _ _ _ _ _ _ _ _ _ _ _ _ _ _ _ _ _ _ _ _ _ _ _ _ _ _ _ _ _ _ _ _ _ _ _ _ _ _ _ _ _ _ _ _ _ _ _ _ _ _ _ _ _ _ _ _ _ _ _ _ _ _ _ _ _ _ _ _ _ _ _ _ _
      hbg hb8 (by omega) (by omega) (by omega) hn hs (((m0.alloc _).alloc _).alloc _) (((m1.alloc _).alloc _).alloc _) f1 f3 f2 (((kg'.alloc _).alloc _).alloc _) (((ho'.alloc _).alloc _).alloc _)
      (fun h => by have := hrow _ h.symm; omega) (fun h => by have := hrow _ h.symm; have := hP5; omega) ?q1 ?q2
    case q1 =>
      intro k g3 cap D2 W2 hkb hak hsl kg2 ho2 hkc hkd hbel2 hD2 hDW
      have hDb2 : base ≤ D2 := by simp only [World.size_alloc] at hDW; omega
      have hDD : W'.heap.size ≤ D2 := by simp only [World.size_alloc] at hDW; omega
      clear hDW
      have hbel3 : Below base w W2 := (hbel.trans ((((Below.refl base W').alloc hbW _).alloc (by simp; omega) _).alloc (by simp; omega) _)).trans hbel2
      have m0' : Bk W2 w.heap.size 119 #[.pointer (some ⟨g, 0, none⟩)] := hkc _ _ _ (by omega) (fun h => by have := hrow _ h.symm; omega) (((m0.alloc _).alloc _).alloc _)
      have m2' : Bk W2 (w.heap.size + 1 + 1) 126 (takenArr L) := hkc _ _ _ (by omega) (fun h => by have := hrow _ h.symm; omega) (((m2.alloc _).alloc _).alloc _)
      have hmix : Tryz.prog.follows .mixedOrders = true := by kernel_rfl
      have hkL : (k : Int) ∉ L := by
        intro hm
        have h1 := slid1_go (places := (b : Int)) (L := L) (at_ := (k : Int)) ⟨by omega, hm⟩
        have h2 := (slid1_bd (places := (b : Int)) (L := L) (at_ := (k : Int) + 1) (by omega)).1
        have h3 : slid1 (b : Int) L (k : Int) = k := slid1_fix hsl (by omega) (by omega)
        omega
      have heq := eql_taken (L ++ [(k : Int)]) L false (tk_ne (by omega) hkL)
      go_wp2
      refine wp_region_noPanic ?_
      refine wp_region_held_drew (S := (fun W => W.cell? ⟨w.heap.size, 0, none⟩ = some (.pointer (some ⟨g, 0, none⟩)) ∧ W.cell? ⟨g, 2, none⟩ = some (.int .i64 (tkI (L ++ [(k : Int)]) 0)) ∧ W.cell? ⟨g, 3, none⟩ = some (.int .i64 (tkI (L ++ [(k : Int)]) 1)) ∧ W.cell? ⟨g, 4, none⟩ = some (.int .i64 (tkI (L ++ [(k : Int)]) 2)) ∧ W.cell? ⟨g, 5, none⟩ = some (.int .i64 (tkI (L ++ [(k : Int)]) 3)) ∧ W.cell? ⟨g, 6, none⟩ = some (.int .i64 (tkI (L ++ [(k : Int)]) 4)) ∧ W.cell? ⟨g, 7, none⟩ = some (.int .i64 (tkI (L ++ [(k : Int)]) 5)) ∧ W.cell? ⟨g, 8, none⟩ = some (.int .i64 (tkI (L ++ [(k : Int)]) 6)) ∧ W.cell? ⟨g, 9, none⟩ = some (.int .i64 (tkI (L ++ [(k : Int)]) 7)) ∧
        W.cell? ⟨w.heap.size + 1 + 1, 0, none⟩ = some (.int .i64 (tkI L 0)) ∧ W.cell? ⟨w.heap.size + 1 + 1, 1, none⟩ = some (.int .i64 (tkI L 1)) ∧ W.cell? ⟨w.heap.size + 1 + 1, 2, none⟩ = some (.int .i64 (tkI L 2)) ∧ W.cell? ⟨w.heap.size + 1 + 1, 3, none⟩ = some (.int .i64 (tkI L 3)) ∧ W.cell? ⟨w.heap.size + 1 + 1, 4, none⟩ = some (.int .i64 (tkI L 4)) ∧ W.cell? ⟨w.heap.size + 1 + 1, 5, none⟩ = some (.int .i64 (tkI L 5)) ∧ W.cell? ⟨w.heap.size + 1 + 1, 6, none⟩ = some (.int .i64 (tkI L 6)) ∧ W.cell? ⟨w.heap.size + 1 + 1, 7, none⟩ = some (.int .i64 (tkI L 7)))) hmix ⟨m0'.cell 0, kg2.cell 2, kg2.cell 3, kg2.cell 4, kg2.cell 5, kg2.cell 6, kg2.cell 7, kg2.cell 8, kg2.cell 9, m2'.cell 0, m2'.cell 1, m2'.cell 2, m2'.cell 3, m2'.cell 4, m2'.cell 5, m2'.cell 6, m2'.cell 7⟩ (fun hS => ?_)
      refine wpAnyH_take (i := 0) (v := ?_) rfl (by kernel_rfl) (by kernel_rfl) (by kernel_rfl) (fun _ _ _ h => h) (Or.inl ⟨by rfl, ?_⟩) (by assumption) ?_
      rotate_left
      · intro w hSw
        (try dsimp only at hSw)
        go_simp
        (try with_reducible rfl)
      try simp (maxSteps := 10000000) only [Act.put, List.setIfInBounds_toArray, List.getElem_toArray]
      try simp only [List.getElem_cons_succ]
      try simp only [List.getElem_cons_zero]
      refine wpAnyH_take (i := 1) (v := ?_) rfl (by kernel_rfl) (by kernel_rfl) (by kernel_rfl) (fun _ _ _ h => h) (Or.inl ⟨by rfl, ?_⟩) (by assumption) ?_
      rotate_left
      · intro w hSw
        (try dsimp only at hSw)
        go_simp
        (try with_reducible rfl)
      try simp (maxSteps := 10000000) only [Act.put, List.setIfInBounds_toArray, List.set_cons_zero, List.set_cons_succ, List.getElem_toArray]
      try simp only [List.getElem_cons_succ]
      try simp only [List.getElem_cons_zero]
      refine wpAnyH_take (i := 2) (v := ?_) rfl (by kernel_rfl) (by kernel_rfl) (by kernel_rfl) (fun _ _ _ h => h) (Or.inl ⟨by rfl, ?_⟩) (by assumption) ?_
      rotate_left
      · intro w hSw
        (try dsimp only at hSw)
        go_simp
        (try with_reducible rfl)
      try simp (maxSteps := 10000000) only [Act.put, List.setIfInBounds_toArray, List.set_cons_zero, List.set_cons_succ, List.getElem_toArray]
      try simp only [List.getElem_cons_succ]
      try simp only [List.getElem_cons_zero]
      refine wpAnyH_take (i := 3) (v := ?_) rfl (by kernel_rfl) (by kernel_rfl) (by kernel_rfl) (fun _ _ _ h => h) (Or.inl ⟨by rfl, ?_⟩) (by assumption) ?_
      rotate_left
      · intro w hSw
        (try dsimp only at hSw)
        go_simp
        (try with_reducible rfl)
      try simp (maxSteps := 10000000) only [Act.put, List.setIfInBounds_toArray, List.set_cons_zero, List.set_cons_succ, List.getElem_toArray]
      try simp only [List.getElem_cons_succ]
      try simp only [List.getElem_cons_zero]
      refine wpAnyH_take (i := 4) (v := ?_) rfl (by kernel_rfl) (by kernel_rfl) (by kernel_rfl) (fun _ _ _ h => h) (Or.inl ⟨by rfl, ?_⟩) (by assumption) ?_
      rotate_left
      · intro w hSw
        (try dsimp only at hSw)
        go_simp
        (try with_reducible rfl)
      try simp (maxSteps := 10000000) only [Act.put, List.setIfInBounds_toArray, List.set_cons_zero, List.set_cons_succ, List.getElem_toArray]
      try simp only [List.getElem_cons_succ]
      try simp only [List.getElem_cons_zero]
      refine wpAnyH_take (i := 5) (v := ?_) rfl (by kernel_rfl) (by kernel_rfl) (by kernel_rfl) (fun _ _ _ h => h) (Or.inl ⟨by rfl, ?_⟩) (by assumption) ?_
      rotate_left
      · intro w hSw
        (try dsimp only at hSw)
        go_simp
        (try with_reducible rfl)
      try simp (maxSteps := 10000000) only [Act.put, List.setIfInBounds_toArray, List.set_cons_zero, List.set_cons_succ, List.getElem_toArray]
      try simp only [List.getElem_cons_succ]
      try simp only [List.getElem_cons_zero]
      refine wpAnyH_done (by kernel_rfl) (NoPanic.normal ?_) _
      go_wp2
      have hDW' : D < W'.heap.size := (Array.getElem?_eq_some_iff.1 HD.out).1
      have hD' : W2.heap[D]? = some (.deferred (some [])) := hkd.2 D _ (by simp only [World.size_alloc]; omega) (by omega) (fun h => by have := hrow _ h.symm; omega) ((((Only.refl W' g none).alloc _).alloc _).alloc _ |>.block D hDW' (by omega) (by simp) |>.trans HD.out)
      have hD3 : (W2.putObj D2 (.deferred none)).heap[D]? = some (.deferred (some [])) := ((grownBy_putObj' W2 D2 (.deferred none)).block D (Array.getElem?_eq_some_iff.1 hD').1 (fun e => by cases e; omega)).trans hD'
      have fin1 := pu_put (.deferred none) hbg (by omega) kg2 ho2 hbel3 hD2 hDb2
      have fin := pu_put (.deferred none) hbg (by omega) fin1.1.2.1 fin1.1.2.2 fin1.2 hD3 hDb
      refine ⟨by simp, .inl ⟨_, _, rfl, run_takeDeferred hD2, ?_⟩⟩
      refine ⟨by simp, .inl ⟨_, _, rfl, run_takeDeferred hD3, ?_⟩⟩
      refine ⟨_, results_none rfl _ _ _, rfl, some ⟨g3, 0, none⟩, cap, ?_⟩
      have e1 : wlie (b : Int) L (a : Int) = (k : Int) := by unfold wlie; rw [HSL.out, if_pos rfl]; exact hsl
      have e2 : s + wfar (b : Int) L (a : Int) = s + ((k : Int) - (a : Int) + ((1 : Nat) : Int) * (b : Int)) := by unfold wfar; rw [HSL.out, if_pos rfl, show slid1 (b : Int) L 0 = (k : Int) from hsl]; simp
      rw [e1, e2]
      exact ⟨fin.1, fin.2.drew⟩
    case q2 =>
      intro D2 W2 hsl2 _ _ _ _ _ _
      exact absurd (show slid1 (b : Int) L 0 = (b : Int) from hsl2) (by omega)
end Go.Proofs.YtibmpjhffeinoaaGreat
