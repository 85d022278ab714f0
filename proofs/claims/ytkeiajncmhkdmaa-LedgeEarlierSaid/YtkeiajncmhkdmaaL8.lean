import Derived.Test.YtkeiajncmhkdmaaL7
import Derived.Test.YtkeiajncmhkdmaaEql
import Derived.WalkMore
namespace Go.Proofs.Ytkeiajncmhkdmaa
open Go.RowKit Go.Shelf
attribute [local go_sem] Oper.semAt_some


def wlie (b : Int) (L : List Int) (d : Int) : Int := if slid1 b L d = b then slid1 b L 0 else slid1 b L d
def wfar (b : Int) (L : List Int) (d : Int) : Int := if slid1 b L d = b then slid1 b L 0 - d + b else slid1 b L d - d
set_option maxRecDepth 100000 in
set_option maxHeartbeats 2000000 in
theorem drop_wheel (b g base a : Nat) (A : Option Addr) (n c : Nat) (L : List Int) (s : Int) (w : World) (hb8 : b ≤ 8) (ha : a < b) (hn : n ≤ 1048576) (hs : 0 ≤ s ∧ s ≤ 1048576)
    (hfr : slid1 (b : Int) L 0 < (b : Int)) (hp : Pu w base g (b : Int) true A n c L s) :
    Calls Try.prog 65 #[.pointer (some ⟨g, 0, none⟩), .int .i64 (a : Int)] w fun e w' => e = .returned (.tuple #[]) ∧ ∃ (A' : Option Addr) (c' : Nat), Pu w' base g (b : Int) true A' (n + 1) c' (L ++ [wlie (b : Int) L (a : Int)]) (s + wfar (b : Int) L (a : Int)) ∧ Below base w w' := by
  obtain ⟨hbg, hpu, ho⟩ := hp
  have hgl : g < w.heap.size := (Array.getElem?_eq_some_iff.1 hpu).1
  have hmf : ∀ (fn : Fn) (first cap : Array Value) (w : World), (Instr.makeFunc fn first cap).run Try.prog w = .ok (.func fn first cap) w := fun _ _ _ _ => rfl
  have c0 : w.cell? ⟨g, 0, none⟩ = some (.int .i64 (b : Int)) := pu_cell hpu 0
  have c1 : w.cell? ⟨g, 1, none⟩ = some (.bool true) := pu_cell hpu 1
  have t0 : w.cell? ⟨g, 2, none⟩ = some (.int .i64 (tkI L 0)) := pu_cell hpu 2
  have t1 : w.cell? ⟨g, 3, none⟩ = some (.int .i64 (tkI L 1)) := pu_cell hpu 3
  have t2 : w.cell? ⟨g, 4, none⟩ = some (.int .i64 (tkI L 2)) := pu_cell hpu 4
  have t3 : w.cell? ⟨g, 5, none⟩ = some (.int .i64 (tkI L 3)) := pu_cell hpu 5
  have t4 : w.cell? ⟨g, 6, none⟩ = some (.int .i64 (tkI L 4)) := pu_cell hpu 6
  have t5 : w.cell? ⟨g, 7, none⟩ = some (.int .i64 (tkI L 5)) := pu_cell hpu 7
  have t6 : w.cell? ⟨g, 8, none⟩ = some (.int .i64 (tkI L 6)) := pu_cell hpu 8
  have t7 : w.cell? ⟨g, 9, none⟩ = some (.int .i64 (tkI L 7)) := pu_cell hpu 9
  have hgl1 : g < w.heap.size + 1 := by omega
  have hgl2 : g < w.heap.size + 1 + 1 := by omega
  have hgl3 : g < w.heap.size + 1 + 1 + 1 := by omega
  have hgl4 : g < w.heap.size + 1 + 1 + 1 + 1 := by omega
  have HPU := Lib.hid hpu
  clear hpu
  refine (callsIn_wide (n := 5)).1 ?_
  refine callsIn_of_wp_marks Try.func65 rfl trivial ?_ rfl
  simp only [Try.ntmps65, List.size_toArray, List.length_cons, List.length_nil, Nat.reduceAdd, Nat.reduceSub, Array.replicate_succ, Array.replicate_zero, List.push_toArray, List.append_toArray, List.nil_append, List.cons_append]
  refine wpIn_wide.2 ?_
  go_wp2
  go_step3
  go_wp2
  obtain ⟨C, hC⟩ : ∃ C : Nat, (Question.appendCap 2 1 3).cut (w.tape w.drawn (Question.appendCap 2 1 3)) = C := ⟨_, rfl⟩
  rw [hC]
  clear hC
  obtain ⟨Z, hZ⟩ : ∃ Z : Array Value, Builtin.zeroCells #[Value.int IntKind.i64 0] (C - 2) = Z := ⟨_, rfl⟩
  rw [hZ]
  clear hZ
  have hB1 : Below w.heap.size w (((((((w.alloc (.cells #[.pointer (some ⟨g, 0, none⟩)] 56)).alloc (.cells #[.int .i64 (a : Int)] 3)).alloc (.cells (takenArr L) 62)).alloc (.cells #[.int .i64 (a : Int)] 3)).alloc (.cells #[.int .i64 0] 3)).alloc (.cells ((#[Value.int .i64 (a : Int), Value.int .i64 0] : Array Value) ++ Z) 3)).drew) := by
    refine below_drewN ?_ 1
    exact (((((((Below.refl _ w).alloc (Nat.le_refl _) _).alloc (by simp) _).alloc (by simp; omega) _).alloc (by simp; omega) _).alloc (by simp; omega) _).alloc (by simp; omega) _)
  have e0 : Bk (((((((w.alloc (.cells #[.pointer (some ⟨g, 0, none⟩)] 56)).alloc (.cells #[.int .i64 (a : Int)] 3)).alloc (.cells (takenArr L) 62)).alloc (.cells #[.int .i64 (a : Int)] 3)).alloc (.cells #[.int .i64 0] 3)).alloc (.cells ((#[Value.int .i64 (a : Int), Value.int .i64 0] : Array Value) ++ Z) 3)).drew) _ _ _ := ((((((Bk.new w 56 #[.pointer (some ⟨g, 0, none⟩)]).alloc _).alloc _).alloc _).alloc _).alloc _)
  have e1 : Bk (((((((w.alloc (.cells #[.pointer (some ⟨g, 0, none⟩)] 56)).alloc (.cells #[.int .i64 (a : Int)] 3)).alloc (.cells (takenArr L) 62)).alloc (.cells #[.int .i64 (a : Int)] 3)).alloc (.cells #[.int .i64 0] 3)).alloc (.cells ((#[Value.int .i64 (a : Int), Value.int .i64 0] : Array Value) ++ Z) 3)).drew) _ _ _ := (((((Bk.new (w.alloc (.cells #[.pointer (some ⟨g, 0, none⟩)] 56)) 3 #[.int .i64 (a : Int)]).alloc _).alloc _).alloc _).alloc _)
  have e2 : Bk (((((((w.alloc (.cells #[.pointer (some ⟨g, 0, none⟩)] 56)).alloc (.cells #[.int .i64 (a : Int)] 3)).alloc (.cells (takenArr L) 62)).alloc (.cells #[.int .i64 (a : Int)] 3)).alloc (.cells #[.int .i64 0] 3)).alloc (.cells ((#[Value.int .i64 (a : Int), Value.int .i64 0] : Array Value) ++ Z) 3)).drew) _ _ _ := ((((Bk.new ((w.alloc (.cells #[.pointer (some ⟨g, 0, none⟩)] 56)).alloc (.cells #[.int .i64 (a : Int)] 3)) 62 (takenArr L)).alloc _).alloc _).alloc _)
  have e5 : Bk (((((((w.alloc (.cells #[.pointer (some ⟨g, 0, none⟩)] 56)).alloc (.cells #[.int .i64 (a : Int)] 3)).alloc (.cells (takenArr L) 62)).alloc (.cells #[.int .i64 (a : Int)] 3)).alloc (.cells #[.int .i64 0] 3)).alloc (.cells ((#[Value.int .i64 (a : Int), Value.int .i64 0] : Array Value) ++ Z) 3)).drew) _ _ _ := Bk.new (((((w.alloc (.cells #[.pointer (some ⟨g, 0, none⟩)] 56)).alloc (.cells #[.int .i64 (a : Int)] 3)).alloc (.cells (takenArr L) 62)).alloc (.cells #[.int .i64 (a : Int)] 3)).alloc (.cells #[.int .i64 0] 3)) 3 ((#[Value.int .i64 (a : Int), Value.int .i64 0] : Array Value) ++ Z)
  simp only [World.size_alloc] at e1 e2 e5
  obtain ⟨W1, hW1⟩ : ∃ W1 : World, (((((((w.alloc (.cells #[.pointer (some ⟨g, 0, none⟩)] 56)).alloc (.cells #[.int .i64 (a : Int)] 3)).alloc (.cells (takenArr L) 62)).alloc (.cells #[.int .i64 (a : Int)] 3)).alloc (.cells #[.int .i64 0] 3)).alloc (.cells ((#[Value.int .i64 (a : Int), Value.int .i64 0] : Array Value) ++ Z) 3)).drew) = W1 := ⟨_, rfl⟩
  have hsz : W1.heap.size = w.heap.size + 6 := by rw [← hW1]; simp [World.drew]
  rw [hW1] at hB1 e0 e1 e2 e5
  unfold takenArr at hW1
  rw [hW1]
  clear hW1
  have kg : Bk W1 g 64 (puCells (b : Int) true L A n c s) := (hB1.block g hgl).trans HPU.out
  have ho1 := ho.below hB1
  have HB1 := Lib.hid hB1
  have HSZ := Lib.hid hsz
  have b5 : W1.cell? ⟨w.heap.size + 1 + 1 + 1 + 1 + 1, 0, none⟩ = some (.int .i64 (a : Int)) := (e5.cell 0).trans (by rw [Array.getElem?_append_left (by simp)]; rfl)
  clear hB1 hsz c0 c1 t0 t1 t2 t3 t4 t5 t6 t7 hgl1 hgl2 hgl3 hgl4
  go_step3
  go_wp2
  refine wp_loop_rounds 2 ?_
  rw [rounds_succ]
  go_wp2_with (go_at_call 58; refine (pFree _ _ _).mono ?_; rintro e w' ⟨rfl, rfl⟩)
  have f1 := (((Bk.new W1 3 #[.int .i64 ((0 : Nat) : Int)]).alloc (.cells #[.pointer (some ⟨g, 0, none⟩)] 56)).alloc (.cells #[.int .i64 (a : Int)] 3))
  have f2 := ((Bk.new (W1.alloc (.cells #[.int .i64 ((0 : Nat) : Int)] 3)) 56 #[.pointer (some ⟨g, 0, none⟩)]).alloc (.cells #[.int .i64 (a : Int)] 3))
  have f3 := Bk.new ((W1.alloc (.cells #[.int .i64 ((0 : Nat) : Int)] 3)).alloc (.cells #[.pointer (some ⟨g, 0, none⟩)] 56)) 3 #[.int .i64 (a : Int)]
  simp only [World.size_alloc] at f2 f3
  have hrow : ∀ k, A.map Addr.block = some k → k < w.heap.size := fun k hk => (ho.lt k hk).2
  refine drop_range b g base w.heap.size (w.heap.size + 1) W1.heap.size (W1.heap.size + 1 + 1) (W1.heap.size + 1) a 0 a true A n c L s _ _ _ _ _ _ _ _ _ _ _ _ _ _ _ _ _ _ _ _ _ _ _ _ _ _ _ _ _ _ _ _ _ _ _ _ _ _ _ _ _ _ _ _ _ _ _ _ _ _ _ _ _ _ _ _ _ _ _ _ _ _ _ _ _ _ _ _ _ _ _ _ _ _ _ _ _ _ _ _ _ _ _ _ _ _ _ _ _ _ _ _ _ _ _ _ _ _ _ _ _ _ _ _
    hbg hb8 (by omega) (by omega) (by omega) hn hs (((e0.alloc _).alloc _).alloc _) (((e1.alloc _).alloc _).alloc _) f1 f3 f2 (((kg.alloc _).alloc _).alloc _) (((ho1.alloc _).alloc _).alloc _)
    (fun h => by have := hrow _ h.symm; omega) (fun h => by have := hrow _ h.symm; have := HSZ.out; omega) ?q1 ?q2
  case q1 =>
    intro k g3 cap D W' hkb hak hsl kg' ho' hkc hkd hbel hD hDW
    have hDb : base ≤ D := by have := HSZ.out; simp only [World.size_alloc] at hDW; omega
    clear hDW
    have hbel : Below base w W' := ((HB1.out.mono (by omega)).trans ((((Below.refl base W1).alloc (by have := HSZ.out; omega) _).alloc (by have := HSZ.out; simp; omega) _).alloc (by have := HSZ.out; simp; omega) _)).trans hbel
    have m0 : Bk W' w.heap.size 56 #[.pointer (some ⟨g, 0, none⟩)] := hkc _ _ _ (by omega) (fun h => by have := hrow _ h.symm; omega) (((e0.alloc _).alloc _).alloc _)
    have m2 : Bk W' (w.heap.size + 1 + 1) 62 (takenArr L) := hkc _ _ _ (by omega) (fun h => by have := hrow _ h.symm; omega) (((e2.alloc _).alloc _).alloc _)
    have hmix : Try.prog.follows .mixedOrders = true := by kernel_rfl
    have hkL : (k : Int) ∉ L := by
      intro hm
      have h1 := slid1_go (places := (b : Int)) (L := L) (at_ := (k : Int)) ⟨by omega, hm⟩
      have h2 := (slid1_bd (places := (b : Int)) (L := L) (at_ := (k : Int) + 1) (by omega)).1
      have h3 : slid1 (b : Int) L (k : Int) = k := slid1_fix hsl (by omega) (by omega)
      omega
    have heq := eql_taken (L ++ [(k : Int)]) L false (tk_ne (by omega) hkL)
    go_wp2
    refine wp_region_noPanic ?_
    refine wp_region_held_drew (S := (fun W => W.cell? ⟨w.heap.size, 0, none⟩ = some (.pointer (some ⟨g, 0, none⟩)) ∧ W.cell? ⟨g, 2, none⟩ = some (.int .i64 (tkI (L ++ [(k : Int)]) 0)) ∧ W.cell? ⟨g, 3, none⟩ = some (.int .i64 (tkI (L ++ [(k : Int)]) 1)) ∧ W.cell? ⟨g, 4, none⟩ = some (.int .i64 (tkI (L ++ [(k : Int)]) 2)) ∧ W.cell? ⟨g, 5, none⟩ = some (.int .i64 (tkI (L ++ [(k : Int)]) 3)) ∧ W.cell? ⟨g, 6, none⟩ = some (.int .i64 (tkI (L ++ [(k : Int)]) 4)) ∧ W.cell? ⟨g, 7, none⟩ = some (.int .i64 (tkI (L ++ [(k : Int)]) 5)) ∧ W.cell? ⟨g, 8, none⟩ = some (.int .i64 (tkI (L ++ [(k : Int)]) 6)) ∧ W.cell? ⟨g, 9, none⟩ = some (.int .i64 (tkI (L ++ [(k : Int)]) 7)) ∧
      W.cell? ⟨w.heap.size + 1 + 1, 0, none⟩ = some (.int .i64 (tkI L 0)) ∧ W.cell? ⟨w.heap.size + 1 + 1, 1, none⟩ = some (.int .i64 (tkI L 1)) ∧ W.cell? ⟨w.heap.size + 1 + 1, 2, none⟩ = some (.int .i64 (tkI L 2)) ∧ W.cell? ⟨w.heap.size + 1 + 1, 3, none⟩ = some (.int .i64 (tkI L 3)) ∧ W.cell? ⟨w.heap.size + 1 + 1, 4, none⟩ = some (.int .i64 (tkI L 4)) ∧ W.cell? ⟨w.heap.size + 1 + 1, 5, none⟩ = some (.int .i64 (tkI L 5)) ∧ W.cell? ⟨w.heap.size + 1 + 1, 6, none⟩ = some (.int .i64 (tkI L 6)) ∧ W.cell? ⟨w.heap.size + 1 + 1, 7, none⟩ = some (.int .i64 (tkI L 7)))) hmix ⟨m0.cell 0, kg'.cell 2, kg'.cell 3, kg'.cell 4, kg'.cell 5, kg'.cell 6, kg'.cell 7, kg'.cell 8, kg'.cell 9, m2.cell 0, m2.cell 1, m2.cell 2, m2.cell 3, m2.cell 4, m2.cell 5, m2.cell 6, m2.cell 7⟩ (fun hS => ?_)
    refine wpAnyH_take (i := 0) (v := ?_) rfl (by kernel_rfl) (by kernel_rfl) (by kernel_rfl) (fun _ _ _ h => h) (Or.inl ⟨by rfl, ?_⟩) (by assumption) ?_
    rotate_left
    · intro w hSw
      (try dsimp only at hSw)
      go_simp
      (try with_reducible rfl)
    try simp (maxSteps := 10000000) only [Act.put, List.setIfInBounds_toArray, List.set_cons_zero, List.set_cons_succ, List.getElem_toArray]
    try simp only [List.getElem_cons_succ]
    try simp only [List.getElem_cons_zero]
    refine wpAnyH_take (i := 1) (v := ?_) rfl (by kernel_rfl) (by kernel_rfl) (by kernel_rfl) (fun _ _ _ h => h) (Or.inl ⟨by rfl, ?_⟩) (by assumption) ?_
    rotate_left
    · intro w hSw
      (try dsimp only at hSw)
      go_simp
      (try with_reducible rfl)
    try simp (maxSteps := 10000000) only [Act.put, List.setIfInBounds_toArray, List.set_cons_zero, List.set_cons_succ, List.getElem_toArray]
    try simp only [List.getElem_cons_succ]
    try simp only [List.getElem_cons_zero]
    refine wpAnyH_take (i := 2) (v := ?_) rfl (by kernel_rfl) (by kernel_rfl) (by kernel_rfl) (fun _ _ _ h => h) (Or.inl ⟨by rfl, ?_⟩) (by assumption) ?_
    rotate_left
    · intro w hSw
      (try dsimp only at hSw)
      go_simp
      (try with_reducible rfl)
    try simp (maxSteps := 10000000) only [Act.put, List.setIfInBounds_toArray, List.set_cons_zero, List.set_cons_succ, List.getElem_toArray]
    try simp only [List.getElem_cons_succ]
    try simp only [List.getElem_cons_zero]
    refine wpAnyH_take (i := 3) (v := ?_) rfl (by kernel_rfl) (by kernel_rfl) (by kernel_rfl) (fun _ _ _ h => h) (Or.inl ⟨by rfl, ?_⟩) (by assumption) ?_
    rotate_left
    · intro w hSw
      (try dsimp only at hSw)
      go_simp
      (try with_reducible rfl)
    try simp (maxSteps := 10000000) only [Act.put, List.setIfInBounds_toArray, List.set_cons_zero, List.set_cons_succ, List.getElem_toArray]
    try simp only [List.getElem_cons_succ]
    try simp only [List.getElem_cons_zero]
    refine wpAnyH_take (i := 4) (v := ?_) rfl (by kernel_rfl) (by kernel_rfl) (by kernel_rfl) (fun _ _ _ h => h) (Or.inl ⟨by rfl, ?_⟩) (by assumption) ?_
    rotate_left
    · intro w hSw
      (try dsimp only at hSw)
      go_simp
      (try with_reducible rfl)
    try simp (maxSteps := 10000000) only [Act.put, List.setIfInBounds_toArray, List.set_cons_zero, List.set_cons_succ, List.getElem_toArray]
    try simp only [List.getElem_cons_succ]
    try simp only [List.getElem_cons_zero]
    refine wpAnyH_take (i := 5) (v := ?_) rfl (by kernel_rfl) (by kernel_rfl) (by kernel_rfl) (fun _ _ _ h => h) (Or.inl ⟨by rfl, ?_⟩) (by assumption) ?_
    rotate_left
    · intro w hSw
      (try dsimp only at hSw)
      go_simp
      (try with_reducible rfl)
    try simp (maxSteps := 10000000) only [Act.put, List.setIfInBounds_toArray, List.set_cons_zero, List.set_cons_succ, List.getElem_toArray]
    try simp only [List.getElem_cons_succ]
    try simp only [List.getElem_cons_zero]
    refine wpAnyH_done (by kernel_rfl) (NoPanic.normal ?_) _
    go_wp2
    have fin := pu_put (.deferred none) hbg (by omega) kg' ho' hbel hD hDb
    refine ⟨by simp, .inl ⟨_, _, rfl, run_takeDeferred hD, ?_⟩⟩
    refine ⟨_, results_none rfl _ _ _, rfl, some ⟨g3, 0, none⟩, cap, ?_⟩
    have e1 : wlie (b : Int) L (a : Int) = (k : Int) := by unfold wlie; rw [hsl, if_neg (by omega)]
    have e2 : s + wfar (b : Int) L (a : Int) = s + ((k : Int) - (a : Int) + ((0 : Nat) : Int) * (b : Int)) := by unfold wfar; rw [hsl, if_neg (by omega)]; simp
    rw [e1, e2]
    exact ⟨fin.1, fin.2.drew⟩
  case q2 =>
    intro D W' hsl ho' hka hkd hbel hD hDW
    have hDb : base ≤ D := by have := HSZ.out; simp only [World.size_alloc] at hDW; omega
    have hDx : w.heap.size ≤ D := by have := HSZ.out; simp only [World.size_alloc] at hDW; omega
    clear hDW
    have hbel : Below base w W' := ((HB1.out.mono (by omega)).trans ((((Below.refl base W1).alloc (by have := HSZ.out; omega) _).alloc (by have := HSZ.out; simp; omega) _).alloc (by have := HSZ.out; simp; omega) _)).trans hbel
    have m0 : Bk W' w.heap.size 56 #[.pointer (some ⟨g, 0, none⟩)] := hka _ _ _ (((e0.alloc _).alloc _).alloc _)
    have m1 : Bk W' (w.heap.size + 1) 3 #[.int .i64 (a : Int)] := hka _ _ _ (((e1.alloc _).alloc _).alloc _)
    have m2 : Bk W' (w.heap.size + 1 + 1) 62 (takenArr L) := hka _ _ _ (((e2.alloc _).alloc _).alloc _)
    have m5 : Bk W' (w.heap.size + 1 + 1 + 1 + 1 + 1) _ _ := hka _ _ _ (((e5.alloc _).alloc _).alloc _)
    have kg' : Bk W' g 64 (puCells (b : Int) true L A n c s) := hka _ _ _ (((kg.alloc _).alloc _).alloc _)
    have mc : W'.cell? ⟨w.heap.size + 1 + 1 + 1 + 1 + 1, 1, none⟩ = some (.int .i64 0) := (m5.cell 1).trans (by rw [Array.getElem?_append_left (by simp)]; rfl)
    have hP5 : w.heap.size + 1 + 1 + 1 + 1 + 1 < W'.heap.size := m5.lt
    have HKD := Lib.hid hkd
    have HSL := Lib.hid hsl
    have HD := Lib.hid hD
    clear hsl hkd hD hka e0 e1 e2 e5 f1 f2 f3 b5 kg ho1
    go_wp2
    rw [rounds_succ]
    go_wp2_with (go_at_call 58; refine (pFree _ _ _).mono ?_; rintro e w' ⟨rfl, rfl⟩)
    have hbW : base ≤ W'.heap.size := by have := kg'.lt; omega
    have f1 := (((Bk.new W' 3 #[.int .i64 ((1 : Nat) : Int)]).alloc (.cells #[.pointer (some ⟨g, 0, none⟩)] 56)).alloc (.cells #[.int .i64 ((0 : Nat) : Int)] 3))
    have f2 := ((Bk.new (W'.alloc (.cells #[.int .i64 ((1 : Nat) : Int)] 3)) 56 #[.pointer (some ⟨g, 0, none⟩)]).alloc (.cells #[.int .i64 ((0 : Nat) : Int)] 3))
    have f3 := Bk.new ((W'.alloc (.cells #[.int .i64 ((1 : Nat) : Int)] 3)).alloc (.cells #[.pointer (some ⟨g, 0, none⟩)] 56)) 3 #[.int .i64 ((0 : Nat) : Int)]
    simp only [World.size_alloc] at f2 f3
    refine drop_range b g base w.heap.size (w.heap.size + 1) W'.heap.size (W'.heap.size + 1 + 1) (W'.heap.size + 1) a 1 0 true A n c L s _ _ _ _ _ _ _ _ _ _ _ _ _ _ _ _ _ _ _ _ _ _ _ _ _ _ _ _ _ _ _ _ _ _ _ _ _ _ _ _ _ _ _ _ _ _ _ _ _ _ _ _ _ _ _ _ _ _ _ _ _ _ _ _ _ _ _ _ _ _ _ _ _ _ _ _ _ _ _ _ _ _ _ _ _ _ _ _ _ _ _ _ _ _ _ _ _ _ _ _ _ _ _ _
      hbg hb8 (by omega) (by omega) (by omega) hn hs (((m0.alloc _).alloc _).alloc _) (((m1.alloc _).alloc _).alloc _) f1 f3 f2 (((kg'.alloc _).alloc _).alloc _) (((ho'.alloc _).alloc _).alloc _)
      (fun h => by have := hrow _ h.symm; omega) (fun h => by have := hrow _ h.symm; have := hP5; omega) ?q1 ?q2
    case q1 =>
      intro k g3 cap D2 W2 hkb hak hsl kg2 ho2 hkc hkd hbel2 hD2 hDW
      have hDb2 : base ≤ D2 := by simp only [World.size_alloc] at hDW; omega
      have hDD : W'.heap.size ≤ D2 := by simp only [World.size_alloc] at hDW; omega
      clear hDW
      have hbel3 : Below base w W2 := (hbel.trans ((((Below.refl base W').alloc hbW _).alloc (by simp; omega) _).alloc (by simp; omega) _)).trans hbel2
      have m0' : Bk W2 w.heap.size 56 #[.pointer (some ⟨g, 0, none⟩)] := hkc _ _ _ (by omega) (fun h => by have := hrow _ h.symm; omega) (((m0.alloc _).alloc _).alloc _)
      have m2' : Bk W2 (w.heap.size + 1 + 1) 62 (takenArr L) := hkc _ _ _ (by omega) (fun h => by have := hrow _ h.symm; omega) (((m2.alloc _).alloc _).alloc _)
      have hmix : Try.prog.follows .mixedOrders = true := by kernel_rfl
      have hkL : (k : Int) ∉ L := by
        intro hm
        have h1 := slid1_go (places := (b : Int)) (L := L) (at_ := (k : Int)) ⟨by omega, hm⟩
        have h2 := (slid1_bd (places := (b : Int)) (L := L) (at_ := (k : Int) + 1) (by omega)).1
        have h3 : slid1 (b : Int) L (k : Int) = k := slid1_fix hsl (by omega) (by omega)
        omega
      have heq := eql_taken (L ++ [(k : Int)]) L false (tk_ne (by omega) hkL)
      go_wp2
      refine wp_region_noPanic ?_
      refine wp_region_held_drew (S := (fun W => W.cell? ⟨w.heap.size, 0, none⟩ = some (.pointer (some ⟨g, 0, none⟩)) ∧ W.cell? ⟨g, 2, none⟩ = some (.int .i64 (tkI (L ++ [(k : Int)]) 0)) ∧ W.cell? ⟨g, 3, none⟩ = some (.int .i64 (tkI (L ++ [(k : Int)]) 1)) ∧ W.cell? ⟨g, 4, none⟩ = some (.int .i64 (tkI (L ++ [(k : Int)]) 2)) ∧ W.cell? ⟨g, 5, none⟩ = some (.int .i64 (tkI (L ++ [(k : Int)]) 3)) ∧ W.cell? ⟨g, 6, none⟩ = some (.int .i64 (tkI (L ++ [(k : Int)]) 4)) ∧ W.cell? ⟨g, 7, none⟩ = some (.int .i64 (tkI (L ++ [(k : Int)]) 5)) ∧ W.cell? ⟨g, 8, none⟩ = some (.int .i64 (tkI (L ++ [(k : Int)]) 6)) ∧ W.cell? ⟨g, 9, none⟩ = some (.int .i64 (tkI (L ++ [(k : Int)]) 7)) ∧
        W.cell? ⟨w.heap.size + 1 + 1, 0, none⟩ = some (.int .i64 (tkI L 0)) ∧ W.cell? ⟨w.heap.size + 1 + 1, 1, none⟩ = some (.int .i64 (tkI L 1)) ∧ W.cell? ⟨w.heap.size + 1 + 1, 2, none⟩ = some (.int .i64 (tkI L 2)) ∧ W.cell? ⟨w.heap.size + 1 + 1, 3, none⟩ = some (.int .i64 (tkI L 3)) ∧ W.cell? ⟨w.heap.size + 1 + 1, 4, none⟩ = some (.int .i64 (tkI L 4)) ∧ W.cell? ⟨w.heap.size + 1 + 1, 5, none⟩ = some (.int .i64 (tkI L 5)) ∧ W.cell? ⟨w.heap.size + 1 + 1, 6, none⟩ = some (.int .i64 (tkI L 6)) ∧ W.cell? ⟨w.heap.size + 1 + 1, 7, none⟩ = some (.int .i64 (tkI L 7)))) hmix ⟨m0'.cell 0, kg2.cell 2, kg2.cell 3, kg2.cell 4, kg2.cell 5, kg2.cell 6, kg2.cell 7, kg2.cell 8, kg2.cell 9, m2'.cell 0, m2'.cell 1, m2'.cell 2, m2'.cell 3, m2'.cell 4, m2'.cell 5, m2'.cell 6, m2'.cell 7⟩ (fun hS => ?_)
      refine wpAnyH_take (i := 0) (v := ?_) rfl (by kernel_rfl) (by kernel_rfl) (by kernel_rfl) (fun _ _ _ h => h) (Or.inl ⟨by rfl, ?_⟩) (by assumption) ?_
      rotate_left
      · intro w hSw
        (try dsimp only at hSw)
        go_simp
        (try with_reducible rfl)
      try simp (maxSteps := 10000000) only [Act.put, List.setIfInBounds_toArray, List.set_cons_zero, List.set_cons_succ, List.getElem_toArray]
      try simp only [List.getElem_cons_succ]
      try simp only [List.getElem_cons_zero]
      refine wpAnyH_take (i := 1) (v := ?_) rfl (by kernel_rfl) (by kernel_rfl) (by kernel_rfl) (fun _ _ _ h => h) (Or.inl ⟨by rfl, ?_⟩) (by assumption) ?_
      rotate_left
      · intro w hSw
        (try dsimp only at hSw)
        go_simp
        (try with_reducible rfl)
      try simp (maxSteps := 10000000) only [Act.put, List.setIfInBounds_toArray, List.set_cons_zero, List.set_cons_succ, List.getElem_toArray]
      try simp only [List.getElem_cons_succ]
      try simp only [List.getElem_cons_zero]
      refine wpAnyH_take (i := 2) (v := ?_) rfl (by kernel_rfl) (by kernel_rfl) (by kernel_rfl) (fun _ _ _ h => h) (Or.inl ⟨by rfl, ?_⟩) (by assumption) ?_
      rotate_left
      · intro w hSw
        (try dsimp only at hSw)
        go_simp
        (try with_reducible rfl)
      try simp (maxSteps := 10000000) only [Act.put, List.setIfInBounds_toArray, List.set_cons_zero, List.set_cons_succ, List.getElem_toArray]
      try simp only [List.getElem_cons_succ]
      try simp only [List.getElem_cons_zero]
      refine wpAnyH_take (i := 3) (v := ?_) rfl (by kernel_rfl) (by kernel_rfl) (by kernel_rfl) (fun _ _ _ h => h) (Or.inl ⟨by rfl, ?_⟩) (by assumption) ?_
      rotate_left
      · intro w hSw
        (try dsimp only at hSw)
        go_simp
        (try with_reducible rfl)
      try simp (maxSteps := 10000000) only [Act.put, List.setIfInBounds_toArray, List.set_cons_zero, List.set_cons_succ, List.getElem_toArray]
      try simp only [List.getElem_cons_succ]
      try simp only [List.getElem_cons_zero]
      refine wpAnyH_take (i := 4) (v := ?_) rfl (by kernel_rfl) (by kernel_rfl) (by kernel_rfl) (fun _ _ _ h => h) (Or.inl ⟨by rfl, ?_⟩) (by assumption) ?_
      rotate_left
      · intro w hSw
        (try dsimp only at hSw)
        go_simp
        (try with_reducible rfl)
      try simp (maxSteps := 10000000) only [Act.put, List.setIfInBounds_toArray, List.set_cons_zero, List.set_cons_succ, List.getElem_toArray]
      try simp only [List.getElem_cons_succ]
      try simp only [List.getElem_cons_zero]
      refine wpAnyH_take (i := 5) (v := ?_) rfl (by kernel_rfl) (by kernel_rfl) (by kernel_rfl) (fun _ _ _ h => h) (Or.inl ⟨by rfl, ?_⟩) (by assumption) ?_
      rotate_left
      · intro w hSw
        (try dsimp only at hSw)
        go_simp
        (try with_reducible rfl)
      try simp (maxSteps := 10000000) only [Act.put, List.setIfInBounds_toArray, List.set_cons_zero, List.set_cons_succ, List.getElem_toArray]
      try simp only [List.getElem_cons_succ]
      try simp only [List.getElem_cons_zero]
      refine wpAnyH_done (by kernel_rfl) (NoPanic.normal ?_) _
      go_wp2
      have hDW' : D < W'.heap.size := (Array.getElem?_eq_some_iff.1 HD.out).1
      have hD' : W2.heap[D]? = some (.deferred (some [])) := hkd.2 D _ (by simp only [World.size_alloc]; omega) (by omega) (fun h => by have := hrow _ h.symm; omega) ((((Only.refl W' g none).alloc _).alloc _).alloc _ |>.block D hDW' (by omega) (by simp) |>.trans HD.out)
      have hD3 : (W2.putObj D2 (.deferred none)).heap[D]? = some (.deferred (some [])) := ((grownBy_putObj' W2 D2 (.deferred none)).block D (Array.getElem?_eq_some_iff.1 hD').1 (fun e => by cases e; omega)).trans hD'
      have fin1 := pu_put (.deferred none) hbg (by omega) kg2 ho2 hbel3 hD2 hDb2
      have fin := pu_put (.deferred none) hbg (by omega) fin1.1.2.1 fin1.1.2.2 fin1.2 hD3 hDb
      refine ⟨by simp, .inl ⟨_, _, rfl, run_takeDeferred hD2, ?_⟩⟩
      refine ⟨by simp, .inl ⟨_, _, rfl, run_takeDeferred hD3, ?_⟩⟩
      refine ⟨_, results_none rfl _ _ _, rfl, some ⟨g3, 0, none⟩, cap, ?_⟩
      have e1 : wlie (b : Int) L (a : Int) = (k : Int) := by unfold wlie; rw [HSL.out, if_pos rfl]; exact hsl
      have e2 : s + wfar (b : Int) L (a : Int) = s + ((k : Int) - (a : Int) + ((1 : Nat) : Int) * (b : Int)) := by unfold wfar; rw [HSL.out, if_pos rfl, show slid1 (b : Int) L 0 = (k : Int) from hsl]; simp
      rw [e1, e2]
      exact ⟨fin.1, fin.2.drew⟩
    case q2 =>
      intro D2 W2 hsl2 _ _ _ _ _ _
      exact absurd (show slid1 (b : Int) L 0 = (b : Int) from hsl2) (by omega)
end Go.Proofs.Ytkeiajncmhkdmaa
