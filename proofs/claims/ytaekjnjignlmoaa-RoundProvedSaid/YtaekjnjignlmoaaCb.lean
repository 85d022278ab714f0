/-
  The program: 'CheckBounds'. Printed by gen_cb.py.
-/
import Derived.Test.YtaekjnjignlmoaaVa
import Derived.Test.YtaekjnjignlmoaaBd
import Derived.Test.YtaekjnjignlmoaaEr
import Derived.Test.YtaekjnjignlmoaaEa
import Derived.Laws.EntriesVeiled
namespace Go.Proofs.Ytaekjnjignlmoaa
open Go.RowKit Go.Shelf
attribute [local go_sem] Oper.semAt_some

theorem load_int64 (w : World) (a : Addr) (x : Int) (h : w.cell? a = some (.int .i64 x)) : (loadVar 2 a).run Try.prog w = .ok (.int .i64 x) w := by
  simp [loadVar, go_sem, h]
theorem load_errno (w : World) (a : Addr) (x : Int) (h : w.cell? a = some (.int .i64 x)) : (loadVar 29 a).run Try.prog w = .ok (.int .i64 x) w := by
  simp [loadVar, go_sem, h]
theorem results_cells {fn : Func} {p q : Tmp} (h : fn.results = #[.cell p 2, .cell q 29]) (tmps : Array Value) {w : World} {k l : Nat} {x y : Int} (hp : tmps.getD p undef = .pointer (some ⟨k, 0, none⟩)) (hq : tmps.getD q undef = .pointer (some ⟨l, 0, none⟩))
    (hx : w.cell? ⟨k, 0, none⟩ = some (.int .i64 x)) (hy : w.cell? ⟨l, 0, none⟩ = some (.int .i64 y)) : (results fn tmps).run Try.prog w = .ok (.tuple #[.int .i64 x, .int .i64 y]) w := by
  have hp' : tmps[p]?.getD undef = .pointer (some ⟨k, 0, none⟩) := by simpa using hp
  have hq' : tmps[q]?.getD undef = .pointer (some ⟨l, 0, none⟩) := by simpa using hq
  simp [results, h, hp', hq', asAddr, load_int64 w _ _ hx, load_errno w _ _ hy]
/-- Is a number of bounds right? -/
def rightBl (b : Int) (ps : List (Int × Int)) (num : Nat → Nat → Nat → Int) (x : T3) : Bool := if sumE b ps num x.1 x.2.1 x.2.2 < 0 then decide (num x.1 x.2.1 x.2.2 = -1) else decide (0 ≤ num x.1 x.2.1 x.2.2) && decide (num x.1 x.2.1 x.2.2 ≤ sumE b ps num x.1 x.2.1 x.2.2)
def ckBoundsS (b : Int) (ps : List (Int × Int)) (Rs : List (List (Int × Int))) : Int × Int :=
  if checkPier b ps = 0 then
    (if !decide (Rs.length = lefts b ps + 1) || Rs.any (fun L => !decide (L.length = ps.length - lefts b ps + 1)) then (0, 15)
     else if Rs.any (fun L => L.any strayN) then (0, 3)
     else if (endsL b ps).all (rightBl b ps (gvE Rs)) then valueS b ps (gvE Rs) else (0, 14))
  else (0, checkPier b ps)

set_option maxRecDepth 100000 in
set_option maxHeartbeats 1000000 in
theorem fCkBounds_err (b : Int) (A : Option Addr) (n c : Nat) (ps : List (Int × Int)) (D : Option Addr) (N dc : Nat) (w : World) (hx : Rp w w.heap.size A n ps) (hn : n ≤ 1048576) (q : Int) (HP : Hid (checkPier b ps = q)) (hq : ¬ q = 0) :
    Calls Try.prog 36 #[.agg #[.int .i64 b, .slice A n c], .slice D N dc] w (RetII w 0 q) := by
  have hb0 : Below w.heap.size w ((((w.alloc (.cells #[.int .i64 b, .slice A n c] 24)).alloc (.cells #[.slice D N dc] 47)).alloc (.cells #[.int .i64 0] 2)).alloc (.cells #[.int .i64 0] 29)) := (((Below.refl _ w).alloc (Nat.le_refl _) _).alloc (by simp) _ |>.alloc (by simp; omega) _).alloc (by simp; omega) _
  have k0 := (((Bk.new w 24 #[.int .i64 b, .slice A n c]).alloc (.cells #[.slice D N dc] 47)).alloc (.cells #[.int .i64 0] 2)).alloc (.cells #[.int .i64 0] 29)
  have k2 := (Bk.new ((w.alloc (.cells #[.int .i64 b, .slice A n c] 24)).alloc (.cells #[.slice D N dc] 47)) 2 #[.int .i64 0]).alloc (.cells #[.int .i64 0] 29)
  have k3 := Bk.new (((w.alloc (.cells #[.int .i64 b, .slice A n c] 24)).alloc (.cells #[.slice D N dc] 47)).alloc (.cells #[.int .i64 0] 2)) 29 #[.int .i64 0]
  have hc0 := k0.cell 0
  have hc1 := k0.cell 1
  have hx0 := hx.next hb0 (Nat.le_refl _) hb0.size
  simp only [World.size_alloc] at k2 k3
  go_enter Try.func36, Try.ntmps36
  go_wp2_with fail
  refine (fOpen_err b A n c ps _ hx0 hn q HP hq).mono ?_
  rintro e w1 ⟨rfl, hb⟩
  have hb1 : Below w.heap.size w w1 := hb0.trans (hb.mono (by simp; omega))
  have k2a := (k2.below hb (by simp)).alloc (.cells #[.pointer none] 79)
  have k3a := (k3.below hb (by simp)).alloc (.cells #[.pointer none] 79)
  have f2 := k2a.frozen 0
  have f3 := k3a.frozen 0
  have c2 := k2a.cell 0
  have c3 := k3a.cell 0
  have k3b := k3a.far (p := ⟨w.heap.size + 1 + 1, 0, none⟩) (by simp) (.int .i64 0)
  have f3b := k3b.frozen 0
  have c3b := k3b.cell 0
  have r2 : ∀ u, ((((w1.alloc (.cells #[.pointer none] 79)).setCell ⟨w.heap.size + 1 + 1, 0, none⟩ (.int .i64 0)).setCell ⟨w.heap.size + 1 + 1 + 1, 0, none⟩ u).cell? ⟨w.heap.size + 1 + 1, 0, none⟩ = some (.int .i64 0)) := fun u => ((k2a.set_ 0 (.int .i64 0)).far (p := ⟨w.heap.size + 1 + 1 + 1, 0, none⟩) (by simp) u).cell 0
  have r3 := fun u => (k3b.set_ 0 u).cell 0
  clear hc0 hc1 hx0 k0 k2 k3 hb0 hb
  go_wp2
  refine bodyPost_ret (results_cells rfl _ rfl rfl (r2 _) (r3 _)) rfl ⟨rfl, ?_⟩
  exact ((hb1.alloc hb1.size _).setCell (p := ⟨w.heap.size + 1 + 1, 0, none⟩) (by simp; omega) _).setCell (p := ⟨w.heap.size + 1 + 1 + 1, 0, none⟩) (by simp; omega) _

theorem wide_skip {l n : Nat} {P : Program} {ops : Array Oper} {rest : List Oper} {o : Oper} {a : Act} {w : World} {Q : Exit → Act → World → Prop} (hw : Region.wanted o (yielded ops a.tmps) = false)
    (h : wpListIn (Fence.wide.inRound l) n P ops Q rest (a.put o.dst undef) w) : wpListIn (Fence.wide.inRound l) n P ops Q (o :: rest) a w := by
  simp only [wpListIn, hw]
  exact ⟨fun _ _ => trivial, h⟩
theorem below_chg {X : Nat → Prop} {A B : World} (h : Below A.heap.size A B) : Chg X A B := (Chg.refl X A).below h (Nat.le_refl _)
theorem below_on {A B : World} (h : Below A.heap.size A B) {K B0 p : Nat} (hB : B0 ≤ A.heap.size) (hp : p < A.heap.size) : KeepsFrom K A B ∧ Ke B0 p A B := ⟨(below_chg (X := fun _ => False) h).keeps K (fun _ h => h.elim), h.mono hB, h.block p hp⟩
theorem cell_heap2 {X : World} {D s t : Nat} {u v : Value} {o : Obj} (h : X.heap[D]? = some o) (h1 : D ≠ s) (h2 : D ≠ t) : ((X.setCell ⟨s, 0, none⟩ u).setCell ⟨t, 0, none⟩ v).heap[D]? = some o :=
  ((Below.heap_setCell _ ⟨t, 0, none⟩ v D h2).trans (Below.heap_setCell X ⟨s, 0, none⟩ u D h1)).trans h
theorem strayN_false {x : Int × Int} : strayN x = false ↔ (-1 ≤ x.1 ∧ x.1 ≤ 9000) ∧ -1 ≤ x.2 ∧ x.2 ≤ 9000 := by simp [strayN, outB_false]
theorem gvE_bd {Rs : List (List (Int × Int))} (h : Rs.any (fun L => L.any strayN) = false) (x y e : Nat) : -1 ≤ gvE Rs x y e ∧ gvE Rs x y e ≤ 9000 := by
  have key : ∀ L : List (Int × Int), L.any strayN = false → (-1 ≤ plc L y ∧ plc L y ≤ 9000) ∧ -1 ≤ too L y ∧ too L y ≤ 9000 := fun L hL => by
    cases hy : L[y]? with
    | none =>
      unfold plc too
      rw [hy]
      show (-1 ≤ (0 : Int) ∧ (0 : Int) ≤ 9000) ∧ -1 ≤ (0 : Int) ∧ (0 : Int) ≤ 9000
      omega
    | some p =>
      have h1 := List.any_eq_false.1 hL p (List.mem_of_getElem? hy)
      rw [Bool.not_eq_true, strayN_false] at h1
      have h2 := plc_some hy
      rw [h2.1, h2.2]
      exact h1
  have h1 : (Rs[x]?.getD []).any strayN = false := by
    cases hx : Rs[x]? with
    | none => rfl
    | some L =>
      have h2 := List.any_eq_false.1 h L (List.mem_of_getElem? hx)
      simpa using h2
  have h2 := key _ h1
  unfold gvE
  split <;> omega

set_option maxRecDepth 100000 in
set_option maxHeartbeats 4000000 in
theorem fCkBounds_ok (b : Int) (A : Option Addr) (n c : Nat) (ps : List (Int × Int)) (D : Option Addr) (N dc : Nat) (Rs : List (List (Int × Int))) (w : World) (hx : Rp w w.heap.size A n ps) (hn : n ≤ 1048576) (hc : n ≤ c) (hD : Bd w w.heap.size D N Rs) (hN : N ≤ 1048576) (hLs : Hid (∀ L ∈ Rs, L.length ≤ 1048576)) (HP : Hid (Pier b ps)) (v : Int × Int)
    (HV : Hid ((if !decide (Rs.length = lefts b ps + 1) || Rs.any (fun L => !decide (L.length = ps.length - lefts b ps + 1)) then (0, 15) else if Rs.any (fun L => L.any strayN) then (0, 3) else if (endsL b ps).all (rightBl b ps (gvE Rs)) then valueS b ps (gvE Rs) else (0, 14)) = v)) :
    Calls Try.prog 36 #[.agg #[.int .i64 b, .slice A n c], .slice D N dc] w (RetII w v.1 v.2) := by
  have HB : ∀ X, Below w.heap.size w X → Below w.heap.size w X := fun _ h => h
  have HCP : Hid (checkPier b ps = 0) := Lib.hid (checkPier_ok.2 HP.out)
  have HLN := Lib.hid hx.len
  have HRL := Lib.hid hD.len
  have hn10 : n ≤ 10 := by have := HP.out.hi; have := HLN.out; omega
  have hq := lefts_le b ps
  rw [HLN.out] at hq
  obtain ⟨q, HQ⟩ : ∃ q, Hid (lefts b ps = q) := ⟨_, Lib.hid rfl⟩
  rw [HQ.out] at hq
  have HV2 : Hid ((if !decide (N = q + 1) || Rs.any (fun L => !decide (L.length = n - q + 1)) then (0, 15) else if Rs.any (fun L => L.any strayN) then (0, 3) else if (endsL b ps).all (rightBl b ps (gvE Rs)) then valueS b ps (gvE Rs) else (0, 14)) = v) := Lib.hid (by rw [← HV.out, HRL.out, HLN.out, HQ.out])
  have hb0 : Below w.heap.size w ((((w.alloc (.cells #[.int .i64 b, .slice A n c] 24)).alloc (.cells #[.slice D N dc] 47)).alloc (.cells #[.int .i64 0] 2)).alloc (.cells #[.int .i64 0] 29)) := (((Below.refl _ w).alloc (Nat.le_refl _) _).alloc (by simp) _ |>.alloc (by simp; omega) _).alloc (by simp; omega) _
  have k0 := (((Bk.new w 24 #[.int .i64 b, .slice A n c]).alloc (.cells #[.slice D N dc] 47)).alloc (.cells #[.int .i64 0] 2)).alloc (.cells #[.int .i64 0] 29)
  have k1 := ((Bk.new (w.alloc (.cells #[.int .i64 b, .slice A n c] 24)) 47 #[.slice D N dc]).alloc (.cells #[.int .i64 0] 2)).alloc (.cells #[.int .i64 0] 29)
  have k2 := (Bk.new ((w.alloc (.cells #[.int .i64 b, .slice A n c] 24)).alloc (.cells #[.slice D N dc] 47)) 2 #[.int .i64 0]).alloc (.cells #[.int .i64 0] 29)
  have k3 := Bk.new (((w.alloc (.cells #[.int .i64 b, .slice A n c] 24)).alloc (.cells #[.slice D N dc] 47)).alloc (.cells #[.int .i64 0] 2)) 29 #[.int .i64 0]
  have hc0 := k0.cell 0
  have hc1 := k0.cell 1
  have hx0 := hx.next hb0 (Nat.le_refl _) hb0.size
  simp only [World.size_alloc] at k1 k2 k3
  have hmf : ∀ (fn : Fn) (first cap : Array Value) (w : World), (Instr.makeFunc fn first cap).run Try.prog w = .ok (.func fn first cap) w := fun _ _ _ _ => rfl
  have hmix : Try.prog.follows .mixedOrders = true := by kernel_rfl
  refine (callsIn_wide (n := 5)).1 ?_
  refine callsIn_of_wp_marks Try.func36 rfl trivial ?_ rfl
  simp only [Try.ntmps36, List.size_toArray, List.length_cons, List.length_nil, Nat.reduceAdd, Nat.reduceSub, Array.replicate_succ, Array.replicate_zero, List.push_toArray, List.append_toArray, List.nil_append, List.cons_append]
  refine wpIn_wide.2 ?_
  go_wp2_with fail
  refine (fOpen_ok b A n c ps _ hx0 hn hc HCP).mono ?_
  rintro e w1 ⟨g, rfl, hw, hg, hb⟩
  go_wp2
  have hb1 : Below w.heap.size w w1 := hb0.trans (hb.mono (by simp; omega))
  have hsz1 : w.heap.size + 4 ≤ w1.heap.size := by have := hb.size; simpa using this
  have p0 := (k0.below hb k0.lt).alloc (.cells #[.pointer (some ⟨g, 0, none⟩)] 79)
  have p1 := (k1.below hb k1.lt).alloc (.cells #[.pointer (some ⟨g, 0, none⟩)] 79)
  have p2 := (k2.below hb k2.lt).alloc (.cells #[.pointer (some ⟨g, 0, none⟩)] 79)
  have p3 := (k3.below hb k3.lt).alloc (.cells #[.pointer (some ⟨g, 0, none⟩)] 79)
  have p6 := Bk.new w1 79 #[.pointer (some ⟨g, 0, none⟩)]
  have hb2 := hb1.alloc hb1.size (.cells #[.pointer (some ⟨g, 0, none⟩)] 79)
  have hwb := (Below.refl _ w1).alloc (Nat.le_refl _) (.cells #[.pointer (some ⟨g, 0, none⟩)] 79)
  have hw2 := hw.below hwb
  have hD2 := hD.below hb2
  obtain ⟨s0, H0⟩ : ∃ s, Hid (w.heap.size = s) := ⟨_, Lib.hid rfl⟩
  obtain ⟨u0, U0⟩ : ∃ s, Hid (w1.heap.size = s) := ⟨_, Lib.hid rfl⟩
  rw [H0.out] at p0 p1 p2 p3 hsz1 hb2 hD2 ⊢
  rw [U0.out] at p6 hsz1 hw2 ⊢
  obtain ⟨W, hW⟩ : ∃ W, w1.alloc (.cells #[.pointer (some ⟨g, 0, none⟩)] 79) = W := ⟨_, rfl⟩
  have HWS : Hid (W.heap.size = u0 + 1) := Lib.hid (by rw [← hW]; simp; rw [U0.out])
  rw [hW] at p0 p1 p2 p3 p6 hb2 hw2 hD2 ⊢
  clear hW hc0 hc1 hx0 hb0 hb k0 k1 k2 k3 hwb hb1 hw hx hD hg
  obtain ⟨s1, H1⟩ : ∃ s, Hid (s0 + 1 = s) := ⟨_, Lib.hid rfl⟩
  rw [H1.out] at p1 p2 p3 ⊢
  obtain ⟨s2, H2⟩ : ∃ s, Hid (s1 + 1 = s) := ⟨_, Lib.hid rfl⟩
  rw [H2.out] at p2 p3 ⊢
  obtain ⟨s3, H3⟩ : ∃ s, Hid (s2 + 1 = s) := ⟨_, Lib.hid rfl⟩
  rw [H3.out] at p3 ⊢
  have HS : Hid (s1 = s0 + 1 ∧ s2 = s0 + 2 ∧ s3 = s0 + 3 ∧ s0 + 4 ≤ u0 ∧ W.heap.size = u0 + 1) := Lib.hid (by have := H1.out; have := H2.out; have := H3.out; have := HWS.out; omega)
  clear hsz1
  have c1 : W.drew.cell? ⟨s1, 0, none⟩ = some (.slice D N dc) := p1.cell 0
  have c6 : W.drew.cell? ⟨u0, 0, none⟩ = some (.pointer (some ⟨g, 0, none⟩)) := p6.cell 0
  have cg : W.drew.cell? ⟨g, 2, none⟩ = some (.int .i64 (q : Int)) := by rw [← HQ.out]; exact hw2.c2
  obtain ⟨k1, HK1⟩ : ∃ k, Hid (q + 1 = k) := ⟨_, Lib.hid rfl⟩
  have hwk : IntKind.i64.wrap ((q : Int) + 1) = (k1 : Int) := by rw [IntWalk.i64_in _ (by omega)]; have := HK1.out; omega
  by_cases hNk : N = k1
  · subst hNk
    have hne : ((N : Int) != (N : Int)) = false := by simp
    obtain ⟨r, HR⟩ : ∃ r, Hid (Rs.any (fun L => !decide (L.length = n - q + 1)) = r) := ⟨_, Lib.hid rfl⟩
    have hnN : Hid ((!decide (N = q + 1)) = false) := Lib.hid (by rw [HK1.out]; simp)
    have hgl : g < W.heap.size := hw2.bk.lt
    have hcall := containsFunc_other s0 u0 g n c q A D N dc s0 Rs W.drew (p0.cell 1) c6 cg p0.lt p6.lt hgl hq hn10 hD2 (Nat.le_of_lt p0.lt) (by omega) (Lib.hid (fun L hL => by have := hLs.out L hL; omega)) r HR
    refine wp_region_noPanic ?_
    refine wp_region_held_drew (S := fun V => V.cell? ⟨s1, 0, none⟩ = some (.slice D N dc) ∧ V.cell? ⟨u0, 0, none⟩ = some (.pointer (some ⟨g, 0, none⟩)) ∧ V.cell? ⟨g, 2, none⟩ = some (.int .i64 (q : Int))) hmix ⟨c1, c6, cg⟩ (fun hS => ?_)
    refine wpAnyH_take (i := 0) (v := ?_) rfl (by kernel_rfl) (by kernel_rfl) (by kernel_rfl) (fun _ _ _ h => h) (Or.inl ⟨by rfl, ?_⟩) hS ?_
    rotate_left
    · intro w hSw
      (try dsimp only at hSw)
      go_simp
      (try with_reducible rfl)
    try simp (maxSteps := 10000000) only [Act.put, List.setIfInBounds_toArray, List.set_cons_zero, List.set_cons_succ, List.getElem_toArray, List.getElem_cons_zero]
    refine wpAnyH_take (i := 1) (v := ?_) rfl (by kernel_rfl) (by kernel_rfl) (by kernel_rfl) (fun _ _ _ h => h) (Or.inl ⟨by rfl, ?_⟩) hS ?_
    rotate_left
    · intro w hSw
      (try dsimp only at hSw)
      go_simp
      (try with_reducible rfl)
    try simp (maxSteps := 10000000) only [Act.put, List.setIfInBounds_toArray, List.set_cons_zero, List.set_cons_succ, List.getElem_toArray, List.getElem_cons_zero, List.getElem_cons_succ]
    refine wpAnyH_take (i := 2) (v := ?_) rfl (by kernel_rfl) (by kernel_rfl) (by kernel_rfl) (fun _ _ _ h => h) (Or.inl ⟨by rfl, ?_⟩) hS ?_
    rotate_left
    · intro w hSw
      (try dsimp only at hSw)
      go_simp
      (try with_reducible rfl)
    try simp (maxSteps := 10000000) only [Act.put, List.setIfInBounds_toArray, List.set_cons_zero, List.set_cons_succ, List.getElem_toArray, List.getElem_cons_zero, List.getElem_cons_succ]
    refine wpAnyH_take (i := 3) (v := ?_) rfl (by kernel_rfl) (by kernel_rfl) (by kernel_rfl) (fun _ _ _ h => h) (Or.inl ⟨by rfl, ?_⟩) hS ?_
    rotate_left
    · intro w hSw
      (try dsimp only at hSw)
      go_simp
      (try with_reducible rfl)
    try simp (maxSteps := 10000000) only [Act.put, List.setIfInBounds_toArray, List.set_cons_zero, List.set_cons_succ, List.getElem_toArray, List.getElem_cons_zero, List.getElem_cons_succ]
    refine wpAnyH_take (i := 4) (v := ?_) rfl (by kernel_rfl) (by kernel_rfl) (by kernel_rfl) (fun _ _ _ h => h) (Or.inl ⟨by rfl, ?_⟩) hS ?_
    rotate_left
    · intro w hSw
      (try dsimp only at hSw)
      go_simp
      (try with_reducible rfl)
    try simp (maxSteps := 10000000) only [Act.put, List.setIfInBounds_toArray, List.set_cons_zero, List.set_cons_succ, List.getElem_toArray, List.getElem_cons_zero, List.getElem_cons_succ]
    refine wpAnyH_take (i := 5) (v := ?_) rfl (by kernel_rfl) (by kernel_rfl) (by kernel_rfl) (fun _ _ _ h => h) (Or.inl ⟨by rfl, ?_⟩) hS ?_
    rotate_left
    · intro w hSw
      (try dsimp only at hSw)
      go_simp
      (try with_reducible rfl)
    try simp (maxSteps := 10000000) only [Act.put, List.setIfInBounds_toArray, List.set_cons_zero, List.set_cons_succ, List.getElem_toArray, List.getElem_cons_zero, List.getElem_cons_succ]
    refine wpAnyH_take (i := 6) (v := ?_) rfl (by kernel_rfl) (by kernel_rfl) (by kernel_rfl) (fun _ _ _ h => h) (Or.inl ⟨by rfl, ?_⟩) hS ?_
    rotate_left
    · intro w hSw
      (try dsimp only at hSw)
      go_simp
      (try with_reducible rfl)
    try simp (maxSteps := 10000000) only [Act.put, List.setIfInBounds_toArray, List.set_cons_zero, List.set_cons_succ, List.getElem_toArray, List.getElem_cons_zero, List.getElem_cons_succ]
    refine wpAnyH_take (i := 7) (v := ?_) rfl (by kernel_rfl) (by kernel_rfl) (by kernel_rfl) (fun _ _ _ h => h) (Or.inl ⟨by rfl, ?_⟩) hS ?_
    rotate_left
    · intro w hSw
      (try dsimp only at hSw)
      go_simp
      (try with_reducible rfl)
    try simp (maxSteps := 10000000) only [Act.put, List.setIfInBounds_toArray, List.set_cons_zero, List.set_cons_succ, List.getElem_toArray, List.getElem_cons_zero, List.getElem_cons_succ]
    refine wpAnyH_take (i := 8) (v := ?_) rfl (by kernel_rfl) (by kernel_rfl) (by kernel_rfl) (fun _ _ _ h => h) (Or.inl ⟨by rfl, ?_⟩) hS ?_
    rotate_left
    · intro w hSw
      (try dsimp only at hSw)
      go_simp
      (try with_reducible rfl)
    try simp (maxSteps := 10000000) only [Act.put, List.setIfInBounds_toArray, List.set_cons_zero, List.set_cons_succ, List.getElem_toArray, List.getElem_cons_zero, List.getElem_cons_succ]
    refine wpAnyH_take (i := 9) (v := ?_) rfl (by kernel_rfl) (by kernel_rfl) (by kernel_rfl) (fun _ _ _ h => h) (Or.inl ⟨by rfl, ?_⟩) hS ?_
    rotate_left
    · intro w hSw
      (try dsimp only at hSw)
      go_simp
      (try with_reducible rfl)
    try simp (maxSteps := 10000000) only [Act.put, List.setIfInBounds_toArray, List.set_cons_zero, List.set_cons_succ, List.getElem_toArray, List.getElem_cons_zero, List.getElem_cons_succ]
    refine wpAnyH_take (i := 10) (v := ?_) rfl (by kernel_rfl) (by kernel_rfl) (by kernel_rfl) (fun _ _ _ h => h) (Or.inl ⟨by rfl, ?_⟩) hS ?_
    rotate_left
    · intro w hSw
      (try dsimp only at hSw)
      go_simp
      (try with_reducible rfl)
    try simp (maxSteps := 10000000) only [Act.put, List.setIfInBounds_toArray, List.set_cons_zero, List.set_cons_succ, List.getElem_toArray, List.getElem_cons_zero, List.getElem_cons_succ]
    refine wpAnyH_ready (rs := [11]) (by kernel_rfl) (by simp) ?_
    refine AllReadyH.cons rfl (fun K hK => ?_) AllReadyH.nil
    go_simp
    refine hcall.mono ?_
    rintro e W2 ⟨rfl, hbc⟩
    have q0 := p0.drew.below hbc p0.lt
    have q1 := p1.drew.below hbc p1.lt
    have q2 := p2.drew.below hbc p2.lt
    have q3 := p3.drew.below hbc p3.lt
    have q6 := p6.drew.below hbc p6.lt
    have hb3 : Below s0 w W2 := (below_drewN hb2 1).trans (hbc.mono (Nat.le_of_lt p0.lt))
    have hw3 : Wk W2 u0 g A n c b ps := Wk.below' (w := W.drew) ⟨hw2.bk, hw2.lt, hw2.rp, hw2.cap⟩ hbc (Nat.le_of_lt p6.lt)
    have cg2 : W2.cell? ⟨g, 2, none⟩ = some (.int .i64 (q : Int)) := by rw [← HQ.out]; exact hw3.c2
    refine hK.out _ _ ⟨q1.cell 0, q6.cell 0, cg2⟩ (fun hS => ?_)
    clear hK K hcall
    try simp (maxSteps := 10000000) only [Act.put, List.setIfInBounds_toArray, List.set_cons_zero, List.set_cons_succ, List.getElem_toArray, List.getElem_cons_zero, List.getElem_cons_succ]
    cases r with
    | true =>
      have HV3 : Hid (v = (0, 15)) := Lib.hid (by rw [← HV2.out, HR.out]; simp)
      refine wpAnyH_take (i := 12) (v := ?_) rfl (by kernel_rfl) (by kernel_rfl) (by kernel_rfl) (fun _ _ _ h => h) (Or.inl ⟨by rfl, ?_⟩) hS ?_
      rotate_left
      · intro w hSw
        (try dsimp only at hSw)
        go_simp
        (try with_reducible rfl)
      try simp (maxSteps := 10000000) only [Act.put, List.setIfInBounds_toArray, List.set_cons_zero, List.set_cons_succ, List.getElem_toArray, List.getElem_cons_zero, List.getElem_cons_succ]
      refine wpAnyH_done (by kernel_rfl) (NoPanic.normal ?_) _
      have f2 := q2.frozen 0
      have c2 := q2.cell 0
      have p3x := q3.far (p := ⟨s2, 0, none⟩) (by have := HS.out; simp; omega) (.int .i64 0)
      have f3 := p3x.frozen 0
      have c3 := p3x.cell 0
      have r2 : ∀ u, ((W2.setCell ⟨s2, 0, none⟩ (.int .i64 0)).setCell ⟨s3, 0, none⟩ u).cell? ⟨s2, 0, none⟩ = some (.int .i64 0) := fun u => ((q2.set_ 0 (.int .i64 0)).far (p := ⟨s3, 0, none⟩) (by have := HS.out; simp; omega) u).cell 0
      have r3 := fun u => (p3x.set_ 0 u).cell 0

      clear c1 c6 cg
      go_wp2
      refine ⟨_, results_cells rfl _ rfl rfl (r2 _) (r3 _), by rw [HV3.out], ?_⟩
      exact (by rw [H0.out]; exact (hb3.setCell (p := ⟨s2, 0, none⟩) (by have := HS.out; simp; omega) _).setCell (p := ⟨s3, 0, none⟩) (by have := HS.out; simp; omega) _)
    | false =>
      have HV3 : Hid ((if Rs.any (fun L => L.any strayN) then (0, 3) else if (endsL b ps).all (rightBl b ps (gvE Rs)) then valueS b ps (gvE Rs) else (0, 14)) = v) := Lib.hid (by rw [← HV2.out, HR.out, hnN.out]; rfl)
      refine wpAnyH_take (i := 12) (v := ?_) rfl (by kernel_rfl) (by kernel_rfl) (by kernel_rfl) (fun _ _ _ h => h) (Or.inl ⟨by rfl, ?_⟩) hS ?_
      rotate_left
      · intro w hSw
        (try dsimp only at hSw)
        go_simp
        (try with_reducible rfl)
      try simp (maxSteps := 10000000) only [Act.put, List.setIfInBounds_toArray, List.set_cons_zero, List.set_cons_succ, List.getElem_toArray, List.getElem_cons_zero, List.getElem_cons_succ]
      refine wpAnyH_done (by kernel_rfl) (NoPanic.normal ?_) _
      have d1 : W2.cell? ⟨s1, 0, none⟩ = some (.slice D N dc) := q1.cell 0
      have hD3 := hD2.below' (w' := W2) (B' := W.heap.size) ⟨hbc.os, hbc.tape, hbc.output, hbc.size, hbc.block⟩ (Nat.le_of_lt p0.lt)
      clear c1 c6 cg
      have HRLN : Hid (∀ L ∈ Rs, L.length = n - q + 1) := Lib.hid (fun L hL => by
        have := List.any_eq_false.1 HR.out L hL
        simpa using this)
      have HNQ : Hid (N = q + 1) := Lib.hid (by have := hnN.out; simpa using this)
      have hs0W2 : s0 ≤ W2.heap.size := Nat.le_of_lt q0.lt
      have hu0W2 : u0 < W2.heap.size := q6.lt
      go_wp2
      go_loopw [40] (fun i wr => ∃ k : Nat, k ≤ N ∧ i = .int .i64 (k : Int) ∧ Hid ((Rs.take k).any (fun L => L.any strayN) = false) ∧ Below W2.heap.size W2 wr) (fun i _ => N - (intOf i).toNat)
      case atStart => exact ⟨0, Nat.zero_le _, rfl, Lib.hid rfl, Below.refl _ _⟩
      case round =>
        obtain ⟨k, hk, rfl, HNO, hbr⟩ := hrel
        by_cases hlt : k < N
        · obtain ⟨ad, A', c', m, L, rfl, _, l1, hL, hLm, hmc, hrp⟩ := (hD3.below' hbr hs0W2).at_ hlt
          have hm40 : m ≤ 1099511627776 := by have := hLs.out L (List.mem_of_getElem? hL.out); have := hLm.out; omega
          obtain ⟨r1, HR1⟩ : ∃ r, Hid (L.any strayN = r) := ⟨_, Lib.hid rfl⟩
          have hcall := containsFunc_strayN A' m c' s0 L wr hrp (Nat.le_trans hs0W2 hbr.size) hm40 r1 HR1
          go_wp2_with fail
          refine hcall.mono ?_
          rintro e W4 ⟨rfl, hb4⟩
          have hb24 := hbr.trans (hb4.mono hbr.size)
          clear hcall
          cases r1 with
          | true =>
            have HV4 : Hid (v = (0, 3)) := Lib.hid (by rw [← HV3.out, if_pos (List.any_eq_true.2 ⟨L, List.mem_of_getElem? hL.out, HR1.out⟩)])
            have z2 := q2.below hb24 q2.lt
            have z3 := q3.below hb24 q3.lt
            have hb5 := hb3.trans (hb24.mono hs0W2)
            have f2 := z2.frozen 0
            have c2 := z2.cell 0
            have p3x := z3.far (p := ⟨s2, 0, none⟩) (by have := HS.out; simp; omega) (.int .i64 0)
            have f3 := p3x.frozen 0
            have c3 := p3x.cell 0
            have r2 : ∀ u, ((W4.setCell ⟨s2, 0, none⟩ (.int .i64 0)).setCell ⟨s3, 0, none⟩ u).cell? ⟨s2, 0, none⟩ = some (.int .i64 0) := fun u => ((z2.set_ 0 (.int .i64 0)).far (p := ⟨s3, 0, none⟩) (by have := HS.out; simp; omega) u).cell 0
            have r3 := fun u => (p3x.set_ 0 u).cell 0

            go_wp2
            refine ⟨_, results_cells rfl _ rfl rfl (r2 _) (r3 _), by rw [HV4.out], ?_⟩
            rw [H0.out]
            exact (hb5.setCell (p := ⟨s2, 0, none⟩) (by have := HS.out; simp; omega) _).setCell (p := ⟨s3, 0, none⟩) (by have := HS.out; simp; omega) _
          | false =>
            have HNO2 : Hid ((Rs.take (k + 1)).any (fun L => L.any strayN) = false) := Lib.hid (by
              rw [take_snoc hL.out, List.any_append, HNO.out]
              simp [HR1.out])
            go_wp2
            go_roundw
            case rel => exact ⟨k + 1, by omega, by go_num, HNO2, hb24⟩
            case measure => simp [intOf]; omega
        · obtain rfl : k = N := by omega
          have HNS : Hid (Rs.any (fun L => L.any strayN) = false) := Lib.hid (by rw [← HNO.out, List.take_of_length_le (Nat.le_of_eq HRL.out)])
          have HV4 : Hid ((if (endsL b ps).all (rightBl b ps (gvE Rs)) then valueS b ps (gvE Rs) else (0, 14)) = v) := Lib.hid (by rw [← HV3.out, HNS.out]; rfl)
          have z1 := (q1.below hbr q1.lt).alloc (.cells #[.func (.func 79) #[] #[.pointer (some ⟨s1, 0, none⟩)]] 108)
          have z2 := (q2.below hbr q2.lt).alloc (.cells #[.func (.func 79) #[] #[.pointer (some ⟨s1, 0, none⟩)]] 108)
          have z3 := (q3.below hbr q3.lt).alloc (.cells #[.func (.func 79) #[] #[.pointer (some ⟨s1, 0, none⟩)]] 108)
          have z6 := (q6.below hbr q6.lt).alloc (.cells #[.func (.func 79) #[] #[.pointer (some ⟨s1, 0, none⟩)]] 108)
          have zf := Bk.new wr 108 #[.func (.func 79) #[] #[.pointer (some ⟨s1, 0, none⟩)]]
          have hsr : W2.heap.size ≤ wr.heap.size := hbr.size
          have hb4 : Below s0 w (wr.alloc (.cells #[.func (.func 79) #[] #[.pointer (some ⟨s1, 0, none⟩)]] 108)) := (hb3.trans (hbr.mono hs0W2)).alloc (by omega) _
          have hw4 := (hw3.below (hbr.mono (Nat.le_of_lt hu0W2))).below (w' := wr.alloc (.cells #[.func (.func 79) #[] #[.pointer (some ⟨s1, 0, none⟩)]] 108)) ((Below.refl _ wr).alloc (by omega) _)
          have hD4 := (hD3.below' hbr hs0W2).below (w' := wr.alloc (.cells #[.func (.func 79) #[] #[.pointer (some ⟨s1, 0, none⟩)]] 108)) ((Below.refl _ wr).alloc (by omega) _)
          have z6c : (wr.alloc (.cells #[.func (.func 79) #[] #[.pointer (some ⟨s1, 0, none⟩)]] 108)).cell? ⟨u0, 0, none⟩ = some (.pointer (some ⟨g, 0, none⟩)) := z6.cell 0
          go_wp2_with fail
          refine (dEnds _ _).mono ?_
          rintro e w' ⟨rfl, rfl⟩
          have y1 := z1.alloc (.cells #[.pointer (some ⟨g, 0, none⟩)] 79)
          have y2 := z2.alloc (.cells #[.pointer (some ⟨g, 0, none⟩)] 79)
          have y3 := z3.alloc (.cells #[.pointer (some ⟨g, 0, none⟩)] 79)
          have y6 := z6.alloc (.cells #[.pointer (some ⟨g, 0, none⟩)] 79)
          have yf := zf.alloc (.cells #[.pointer (some ⟨g, 0, none⟩)] 79)
          have yb := Bk.new (wr.alloc (.cells #[.func (.func 79) #[] #[.pointer (some ⟨s1, 0, none⟩)]] 108)) 79 #[.pointer (some ⟨g, 0, none⟩)]
          have hb5 := hb4.alloc (by simp; omega) (.cells #[.pointer (some ⟨g, 0, none⟩)] 79)
          have hw5 := hw4.below (w' := (wr.alloc (.cells #[.func (.func 79) #[] #[.pointer (some ⟨s1, 0, none⟩)]] 108)).alloc (.cells #[.pointer (some ⟨g, 0, none⟩)] 79)) ((Below.refl _ _).alloc (by simp; omega) _)
          have hD5 := hD4.below (w' := (wr.alloc (.cells #[.func (.func 79) #[] #[.pointer (some ⟨s1, 0, none⟩)]] 108)).alloc (.cells #[.pointer (some ⟨g, 0, none⟩)] 79)) ((Below.refl _ _).alloc (by simp; omega) _)
          obtain ⟨fb, HFB⟩ : ∃ s, Hid (wr.heap.size = s) := ⟨_, Lib.hid rfl⟩
          simp only [World.size_alloc] at yb ⊢
          rw [HFB.out] at yf yb hsr ⊢
          obtain ⟨W5, hW5⟩ : ∃ W5, (wr.alloc (.cells #[.func (.func 79) #[] #[.pointer (some ⟨s1, 0, none⟩)]] 108)).alloc (.cells #[.pointer (some ⟨g, 0, none⟩)] 79) = W5 := ⟨_, rfl⟩
          have HS5 : Hid (W5.heap.size = fb + 2) := Lib.hid (by rw [← hW5]; simp; rw [HFB.out])
          rw [hW5] at y1 y2 y3 y6 yf yb hb5 hw5 hD5 ⊢
          obtain ⟨bx, HBX⟩ : ∃ s, Hid (fb + 1 = s) := ⟨_, Lib.hid rfl⟩
          rw [HBX.out] at yb ⊢
          clear hW5 z1 z2 z3 z6 zf hb4 hw4 hD4 z6c hbr
          have hu5 : u0 ≤ W5.heap.size := by have := y6.lt; omega
          have HS01 : Hid (s0 ≤ u0 ∧ s2 ≠ s3 ∧ s0 ≤ s2 ∧ s0 ≤ s3 ∧ s0 ≤ W5.heap.size) := Lib.hid (by have := HS.out; omega)
          have HGB := Lib.hid (gvE_bd (Rs := Rs) HNS.out)
          have hR10 : n - q + 1 ≤ 1000 := by omega
          have HGIV : Hid (∀ (V : World) (x y e : Nat), Below W5.heap.size W5 V → x ≤ lefts b ps → y ≤ n - lefts b ps → e < 2 → Calls Try.prog 79 #[.agg #[.int .i64 (x : Int), .int .i64 (y : Int), .int .i64 (e : Int)], .pointer (some ⟨s1, 0, none⟩)] V fun r V' => r = .returned (.int .i64 (gvE Rs x y e)) ∧ Below V.heap.size V V') := Lib.hid (fun V x y e hV hx hy he =>
            fGiven s1 D k dc s0 (n - q + 1) Rs V ((y1.below hV y1.lt).cell 0) (Nat.lt_of_lt_of_le y1.lt hV.size) (hD5.below' hV HS01.out.2.2.2.2) (Nat.le_trans HS01.out.2.2.2.2 hV.size) x y e (by rw [HQ.out] at hx; have := HNQ.out; omega) HRLN.out (by rw [HQ.out] at hy; omega) he (by have := HNQ.out; omega) hR10)
          go_wp2_with fail
          refine ends_range bx g n c u0 A b ps rfl HP yb hw5 hu5
            (fun pre W => Below W5.heap.size W5 W ∧ ∀ x ∈ pre, rightBl b ps (gvE Rs) x.1 = true)
            (fun c' _ W => c' = .ret ∧ s2 < W5.heap.size ∧ s3 < W5.heap.size ∧ Bk W s2 2 #[.int .i64 0] ∧ Bk W s3 29 #[.int .i64 14] ∧ Below s0 w W ∧ v = (0, 14)) ?hI ?hIx ⟨Below.refl _ _, fun x hx => by cases hx⟩ ?fa ?hassign ?hbody ?hdone ?hstop
          case hI => exact fun s' A' C row hs hg' hr => ⟨below_from (β := Unit) (w0 := W5) (Nat.le_refl _) (Nat.le_refl _) () A' C row hs.1 hg' hr, hs.2⟩
          case hIx => exact fun c' s' A' C row hs hg' hr => ⟨hs.1, hs.2.1, hs.2.2.1, Bk.from_ (β := Unit) _ _ _ _ () A' C row hs.2.2.2.1 hg' hr, Bk.from_ (β := Unit) _ _ _ _ () A' C row hs.2.2.2.2.1 hg' hr, below_from (β := Unit) (w0 := w) HS01.out.2.2.2.2 (Nat.le_of_eq H0.out.symm) () A' C row hs.2.2.2.2.2.1 hg' hr, hs.2.2.2.2.2.2⟩
          case hassign =>
            intro l x W be K hbe hK
            dsimp only [endC] at hK ⊢
            gi_wp2
            exact hK
          case hbody =>
            rintro l pre ⟨x, y, e⟩ ⟨hx, hy, he⟩ be X ⟨hbX, hall⟩ hbe hbk hsX hlen
            dsimp only [endC] at hx hy he hbk ⊢
            rw [HLN.out] at hy
            have hwX := (hw5.below (hbX.mono hu5)).more (Nat.le_trans hu5 hbX.size)
            have x6 := y6.below hbX y6.lt
            have xf := yf.below hbX yf.lt
            have c6 := x6.cell 0
            have cf := xf.cell 0
            have e0 := hbk.cell 0
            have e1 := hbk.cell 1
            have e2 := hbk.cell 2
            have hcall := dSumB g n c s1 A b ps X hwX HP (gvE Rs) HGB.out (fun V x' y' e' hV => HGIV.out V x' y' e' (hbX.trans (hV.mono hbX.size))) x y e hx hy he
            gi_wp2_with fail
            refine ⟨trivial, ?_⟩
            refine (CallsIn.inRound l (callsIn_wide.2 hcall)).mono ?_
            rintro r X2 ⟨⟨vv, rfl, hv, hv0, hv1⟩, hbX2⟩
            have hbX3 := hbX.trans (hbX2.mono hbX.size)
            have hbk2 := hbk.below hbX2 hbk.lt
            have xf2 := xf.below hbX2 xf.lt
            have cf2 : X2.cell? ⟨fb, 0, none⟩ = some (.func (.func 79) #[] #[.pointer (some ⟨s1, 0, none⟩)]) := xf2.cell 0
            have g0 : X2.cell? ⟨be, 0, none⟩ = some (.int .i64 (x : Int)) := hbk2.cell 0
            have g1 : X2.cell? ⟨be, 1, none⟩ = some (.int .i64 (y : Int)) := hbk2.cell 1
            have g2 : X2.cell? ⟨be, 2, none⟩ = some (.int .i64 (e : Int)) := hbk2.cell 2
            have hcall2 := HGIV.out X2 x y e hbX3 hx hy he
            clear c6 cf e0 e1 e2 hcall
            gi_wp2_with fail
            refine ⟨trivial, ?_⟩
            refine (CallsIn.inRound l (callsIn_wide.2 hcall2)).mono ?_
            rintro r X3 ⟨rfl, hbX4⟩
            clear hcall2 cf2 g0 g1 g2
            have hbXX : Below X.heap.size X X3 := hbX2.trans (hbX4.mono hbX2.size)
            have hbW5 : Below W5.heap.size W5 X3 := hbX.trans (hbXX.mono hbX.size)
            have t2 := y2.below hbW5 y2.lt
            have t3 := y3.below hbW5 y3.lt
            have hall2 : rightBl b ps (gvE Rs) (x, y, e) = true → ∀ z ∈ pre ++ [(⟨(x, y, e), ⟨hx, (by rw [HLN.out]; exact hy), he⟩⟩ : EndT b ps)], rightBl b ps (gvE Rs) z.1 = true := fun h z hz => by
              rcases List.mem_append.1 hz with hz | hz
              · exact hall z hz
              · rw [List.mem_singleton.1 hz]; exact h
            have HALL2 := Lib.hid hall2
            have hbad : rightBl b ps (gvE Rs) (x, y, e) = false → v = (0, 14) := fun h => by
              rw [← HV4.out, if_neg (fun h2 => ?_)]
              have h3 := List.all_eq_true.1 h2 (x, y, e) (mem_endsL.2 ⟨hx, by rw [HLN.out]; exact hy, he⟩)
              rw [h] at h3
              cases h3
            have HBAD := Lib.hid hbad
            have HKB : Hid (∀ X' : World, Below X.heap.size X X' → KeepsFrom W5.heap.size X X' ∧ Ke u0 bx X X') := Lib.hid (fun X' h => below_on h (Nat.le_trans hu5 hbX.size) (Nat.lt_of_lt_of_le yb.lt hbX.size))
            have hs2X : s2 < W5.heap.size := y2.lt
            have hs3X : s3 < W5.heap.size := y3.lt
            clear hall2 hbad
            obtain ⟨z, HZ⟩ : ∃ z, Hid (gvE Rs x y e = z) := ⟨_, Lib.hid rfl⟩
            rw [HZ.out]
            have hzb := HGB.out x y e
            rw [HZ.out] at hzb
            by_cases hok : 0 ≤ sumE b ps (gvE Rs) x y e
            · have hvv := hv hok
              have hdk : decide (0 ≤ sumE b ps (gvE Rs) x y e) = true := decide_eq_true hok
              have HRB : Hid (rightBl b ps (gvE Rs) (x, y, e) = (decide (0 ≤ z) && decide (z ≤ vv))) := Lib.hid (by unfold rightBl; rw [if_neg (by show ¬ sumE b ps (gvE Rs) x y e < 0; omega)]; show (decide (0 ≤ gvE Rs x y e) && decide (gvE Rs x y e ≤ sumE b ps (gvE Rs) x y e)) = _; rw [HZ.out, hvv])
              rw [hdk]
              clear hv hdk hok hvv
              have hlit := (Oi.lit1 X3 z).ri
              obtain ⟨r1, HR1⟩ : ∃ r, Hid ([z].any (outB 0 vv) = r) := ⟨_, Lib.hid rfl⟩
              have HRB2 : Hid (rightBl b ps (gvE Rs) (x, y, e) = !r1) := Lib.hid (by
                rw [HRB.out, ← HR1.out]
                simp only [List.any_cons, List.any_nil, Bool.or_false, outB]
                by_cases h1 : z < 0
                · simp [h1] <;> omega
                · by_cases h2 : vv < z
                  · simp [h1, h2] <;> omega
                  · simp [h1, h2] <;> omega)
              have hcall := fWithin 0 vv _ 1 1 [z] _ hlit (by omega) r1 HR1
              gi_wp2_with fail
              refine ⟨trivial, ?_⟩
              refine (CallsIn.inRound l (callsIn_wide.2 hcall)).mono ?_
              rintro r X4 ⟨rfl, hbX5, hse⟩
              clear hse hcall
              have hbY : Below X.heap.size X X4 := (hbXX.alloc hbXX.size _).trans (hbX5.mono (by have := hbXX.size; simp; omega))
              have hbW6 : Below W5.heap.size W5 X4 := hbX.trans (hbY.mono hbX.size)
              cases r1 with
              | false =>
                gi_wp2
                exact ⟨(HKB.out _ hbY).1, (HKB.out _ hbY).2, hbW6, HALL2.out HRB2.out⟩
              | true =>
                have t4 := y2.below hbW6 y2.lt
                have t5 := y3.below hbW6 y3.lt
                have f2 := t4.frozen 0
                have c2 := t4.cell 0
                have p3x := t5.far (p := ⟨s2, 0, none⟩) (by have := HS.out; simp; omega) (.int .i64 0)
                have f3 := p3x.frozen 0
                have c3 := p3x.cell 0
                have r2 : ∀ u, ((X4.setCell ⟨s2, 0, none⟩ (.int .i64 0)).setCell ⟨s3, 0, none⟩ u).cell? ⟨s2, 0, none⟩ = some (.int .i64 0) := fun u => ((t4.set_ 0 (.int .i64 0)).far (p := ⟨s3, 0, none⟩) (by have := HS.out; simp; omega) u).cell 0
                have r3 := fun u => (p3x.set_ 0 u).cell 0

                gi_wp2
                refine ⟨(((below_chg (X := fun k => k = s2 ∨ k = s3) hbY).setCell (p := ⟨s2, 0, none⟩) (.inl (.inl rfl)) (.int .i64 0)).setCell (p := ⟨s3, 0, none⟩) (.inl (.inr rfl)) (.int .i64 14)).keepsAt _ (fun k e => by rcases e with rfl | rfl <;> assumption), rfl, hs2X, hs3X, (t4.set_ 0 (.int .i64 0)).far (p := ⟨s3, 0, none⟩) (by simpa using HS01.out.2.1) _, (t5.far (p := ⟨s2, 0, none⟩) (by simpa using fun e => HS01.out.2.1 e.symm) _).set_ 0 (.int .i64 14), ?_, HBAD.out HRB2.out⟩
                exact ((hb5.trans (hbW6.mono HS01.out.2.2.2.2)).setCell (p := ⟨s2, 0, none⟩) (by simpa using HS01.out.2.2.1) _).setCell (p := ⟨s3, 0, none⟩) (by simpa using HS01.out.2.2.2.1) _
            · have hdk : decide (0 ≤ sumE b ps (gvE Rs) x y e) = false := decide_eq_false hok
              have HRB : Hid (rightBl b ps (gvE Rs) (x, y, e) = decide (z = -1)) := Lib.hid (by unfold rightBl; rw [if_pos (by show sumE b ps (gvE Rs) x y e < 0; omega)]; show decide (gvE Rs x y e = -1) = _; rw [HZ.out])
              rw [hdk]
              clear hv hdk hok
              by_cases hz1 : z = -1
              · have HRB2 : Hid (rightBl b ps (gvE Rs) (x, y, e) = true) := Lib.hid (by rw [HRB.out, hz1]; rfl)
                have hzz : (z != -1) = false := by rw [hz1]; rfl
                clear hz1
                gi_wp2
                refine ⟨trivial, ?_⟩
                gi_wp2
                exact ⟨(HKB.out _ hbXX).1, (HKB.out _ hbXX).2, hbW5, HALL2.out HRB2.out⟩
              · have HRB2 : Hid (rightBl b ps (gvE Rs) (x, y, e) = false) := Lib.hid (by rw [HRB.out, decide_eq_false hz1])
                have hzz : (z != -1) = true := by simp [hz1]
                clear hz1
                have f2 := t2.frozen 0
                have c2 := t2.cell 0
                have p3x := t3.far (p := ⟨s2, 0, none⟩) (by have := HS.out; simp; omega) (.int .i64 0)
                have f3 := p3x.frozen 0
                have c3 := p3x.cell 0
                have r2 : ∀ u, ((X3.setCell ⟨s2, 0, none⟩ (.int .i64 0)).setCell ⟨s3, 0, none⟩ u).cell? ⟨s2, 0, none⟩ = some (.int .i64 0) := fun u => ((t2.set_ 0 (.int .i64 0)).far (p := ⟨s3, 0, none⟩) (by have := HS.out; simp; omega) u).cell 0
                have r3 := fun u => (p3x.set_ 0 u).cell 0

                gi_wp2_with (refine wide_skip rfl ?_)
                refine ⟨(((below_chg (X := fun k => k = s2 ∨ k = s3) hbXX).setCell (p := ⟨s2, 0, none⟩) (.inl (.inl rfl)) (.int .i64 0)).setCell (p := ⟨s3, 0, none⟩) (.inl (.inr rfl)) (.int .i64 14)).keepsAt _ (fun k e => by rcases e with rfl | rfl <;> assumption), rfl, hs2X, hs3X, (t2.set_ 0 (.int .i64 0)).far (p := ⟨s3, 0, none⟩) (by simpa using HS01.out.2.1) _, (t3.far (p := ⟨s2, 0, none⟩) (by simpa using fun e => HS01.out.2.1 e.symm) _).set_ 0 (.int .i64 14), ?_, HBAD.out HRB2.out⟩
                exact ((hb5.trans (hbW5.mono HS01.out.2.2.2.2)).setCell (p := ⟨s2, 0, none⟩) (by simpa using HS01.out.2.2.1) _).setCell (p := ⟨s3, 0, none⟩) (by simpa using HS01.out.2.2.2.1) _
          case hdone =>
            rintro Dd xs X hDd hxs ⟨hbX, hall⟩ hDX
            have HV5 : Hid (v = valueS b ps (gvE Rs)) := Lib.hid (by
              rw [← HV4.out, if_pos (List.all_eq_true.2 fun z hz => ?_)]
              rw [← hxs] at hz
              obtain ⟨z', hz', rfl⟩ := List.mem_map.1 hz
              exact hall z' hz')
            have x6 := y6.below hbX y6.lt
            have xf := yf.below hbX yf.lt
            have t2 := y2.below hbX y2.lt
            have t3 := y3.below hbX y3.lt
            have c6 := x6.cell 0
            have cf := xf.cell 0
            have hwX := (hw5.below (hbX.mono hu5)).more (Nat.le_trans hu5 hbX.size)
            have hcall := dValue g n c s1 A b ps X hwX HP (gvE Rs) (fun V x' y' e' hV => HGIV.out V x' y' e' (hbX.trans (hV.mono hbX.size)))
            have HD := Lib.hid hDX
            have hDl : Dd < X.heap.size := (Array.getElem?_eq_some_iff.1 hDX).1
            have hs2X : s2 < W5.heap.size := y2.lt
            have hs3X : s3 < W5.heap.size := y3.lt
            clear hDX hall hxs
            go_wp2_with fail
            refine hcall.mono ?_
            rintro r X2 ⟨rfl, hbX2⟩
            have t4 := t2.below hbX2 t2.lt
            have t5 := t3.below hbX2 t3.lt
            have HD2 : Hid (X2.heap[Dd]? = some (.deferred (some []))) := Lib.hid ((hbX2.block Dd hDl).trans HD.out)
            obtain ⟨v1, HV1⟩ : ∃ x, Hid ((valueS b ps (gvE Rs)).1 = x) := ⟨_, Lib.hid rfl⟩
            obtain ⟨v2, HV2'⟩ : ∃ x, Hid ((valueS b ps (gvE Rs)).2 = x) := ⟨_, Lib.hid rfl⟩
            rw [HV1.out, HV2'.out]
            clear c6 cf hcall
            have f2 := t4.frozen 0
            have c2 := t4.cell 0
            have p3x := t5.far (p := ⟨s2, 0, none⟩) (by have := HS.out; simp; omega) (.int .i64 v1)
            have f3 := p3x.frozen 0
            have c3 := p3x.cell 0
            have r2 : ∀ u, ((X2.setCell ⟨s2, 0, none⟩ (.int .i64 v1)).setCell ⟨s3, 0, none⟩ u).cell? ⟨s2, 0, none⟩ = some (.int .i64 v1) := fun u => ((t4.set_ 0 (.int .i64 v1)).far (p := ⟨s3, 0, none⟩) (by have := HS.out; simp; omega) u).cell 0
            have r3 := fun u => (p3x.set_ 0 u).cell 0

            go_wp2
            refine ⟨by simp, .inl ⟨_, _, rfl, run_takeDeferred (cell_heap2 HD2.out (by omega) (by omega)), ?_⟩⟩
            refine ⟨_, results_cells rfl _ rfl rfl ((cell_eq (World.putObj_heap_other (by omega)) 0).trans (r2 _)) ((cell_eq (World.putObj_heap_other (by omega)) 0).trans (r3 _)), by rw [HV5.out, HV1.out, HV2'.out], ?_⟩
            rw [H0.out]
            have hE : Below s0 w X2 := hb5.trans ((hbX.trans (hbX2.mono hbX.size)).mono HS01.out.2.2.2.2)
            exact ((hE.setCell (p := ⟨s2, 0, none⟩) (by simpa using HS01.out.2.2.1) _).setCell (p := ⟨s3, 0, none⟩) (by simpa using HS01.out.2.2.2.1) _).grown (grownBy_putObj' _ Dd (.deferred none)) (Nat.le_trans HS01.out.2.2.1 (by simp [World.setCell]; exact Nat.le_of_lt t4.lt)) (fun k e => by cases e; exact Nat.le_trans HS01.out.2.2.2.2 hDd)
          case hstop =>
            rintro Dd c' pre X hDd ⟨rfl, h1, h2, h3, h4, h5, h6⟩ hDX
            have HD := Lib.hid hDX
            clear hDX
            go_wp2
            refine ⟨by simp, .inl ⟨_, _, rfl, run_takeDeferred HD.out, ?_⟩⟩
            refine ⟨_, results_cells rfl _ rfl rfl ((cell_eq (World.putObj_heap_other (by omega)) 0).trans (h3.cell 0)) ((cell_eq (World.putObj_heap_other (by omega)) 0).trans (h4.cell 0)), by rw [h6], ?_⟩
            rw [H0.out]
            exact h5.grown (grownBy_putObj' X Dd (.deferred none)) (Nat.le_trans HS01.out.2.2.1 (Nat.le_of_lt h3.lt)) (fun k e => by cases e; exact Nat.le_trans HS01.out.2.2.2.2 hDd)
  · have HV3 : Hid (v = (0, 15)) := Lib.hid (by rw [← HV2.out, if_pos (by rw [HK1.out]; simp [hNk])])
    have hne : ((N : Int) != (k1 : Int)) = true := by simp; omega
    refine wp_region_noPanic ?_
    refine wp_region_held_drew (S := fun V => V.cell? ⟨s1, 0, none⟩ = some (.slice D N dc) ∧ V.cell? ⟨u0, 0, none⟩ = some (.pointer (some ⟨g, 0, none⟩)) ∧ V.cell? ⟨g, 2, none⟩ = some (.int .i64 (q : Int))) hmix ⟨c1, c6, cg⟩ (fun hS => ?_)
    refine wpAnyH_take (i := 0) (v := ?_) rfl (by kernel_rfl) (by kernel_rfl) (by kernel_rfl) (fun _ _ _ h => h) (Or.inl ⟨by rfl, ?_⟩) hS ?_
    rotate_left
    · intro w hSw
      (try dsimp only at hSw)
      go_simp
      (try with_reducible rfl)
    try simp (maxSteps := 10000000) only [Act.put, List.setIfInBounds_toArray, List.set_cons_zero, List.set_cons_succ, List.getElem_toArray, List.getElem_cons_zero]
    refine wpAnyH_take (i := 1) (v := ?_) rfl (by kernel_rfl) (by kernel_rfl) (by kernel_rfl) (fun _ _ _ h => h) (Or.inl ⟨by rfl, ?_⟩) hS ?_
    rotate_left
    · intro w hSw
      (try dsimp only at hSw)
      go_simp
      (try with_reducible rfl)
    try simp (maxSteps := 10000000) only [Act.put, List.setIfInBounds_toArray, List.set_cons_zero, List.set_cons_succ, List.getElem_toArray, List.getElem_cons_zero, List.getElem_cons_succ]
    refine wpAnyH_take (i := 2) (v := ?_) rfl (by kernel_rfl) (by kernel_rfl) (by kernel_rfl) (fun _ _ _ h => h) (Or.inl ⟨by rfl, ?_⟩) hS ?_
    rotate_left
    · intro w hSw
      (try dsimp only at hSw)
      go_simp
      (try with_reducible rfl)
    try simp (maxSteps := 10000000) only [Act.put, List.setIfInBounds_toArray, List.set_cons_zero, List.set_cons_succ, List.getElem_toArray, List.getElem_cons_zero, List.getElem_cons_succ]
    refine wpAnyH_take (i := 3) (v := ?_) rfl (by kernel_rfl) (by kernel_rfl) (by kernel_rfl) (fun _ _ _ h => h) (Or.inl ⟨by rfl, ?_⟩) hS ?_
    rotate_left
    · intro w hSw
      (try dsimp only at hSw)
      go_simp
      (try with_reducible rfl)
    try simp (maxSteps := 10000000) only [Act.put, List.setIfInBounds_toArray, List.set_cons_zero, List.set_cons_succ, List.getElem_toArray, List.getElem_cons_zero, List.getElem_cons_succ]
    refine wpAnyH_take (i := 4) (v := ?_) rfl (by kernel_rfl) (by kernel_rfl) (by kernel_rfl) (fun _ _ _ h => h) (Or.inl ⟨by rfl, ?_⟩) hS ?_
    rotate_left
    · intro w hSw
      (try dsimp only at hSw)
      go_simp
      (try with_reducible rfl)
    try simp (maxSteps := 10000000) only [Act.put, List.setIfInBounds_toArray, List.set_cons_zero, List.set_cons_succ, List.getElem_toArray, List.getElem_cons_zero, List.getElem_cons_succ]
    refine wpAnyH_take (i := 5) (v := ?_) rfl (by kernel_rfl) (by kernel_rfl) (by kernel_rfl) (fun _ _ _ h => h) (Or.inl ⟨by rfl, ?_⟩) hS ?_
    rotate_left
    · intro w hSw
      (try dsimp only at hSw)
      go_simp
      (try with_reducible rfl)
    try simp (maxSteps := 10000000) only [Act.put, List.setIfInBounds_toArray, List.set_cons_zero, List.set_cons_succ, List.getElem_toArray, List.getElem_cons_zero, List.getElem_cons_succ]
    refine wpAnyH_take (i := 6) (v := ?_) rfl (by kernel_rfl) (by kernel_rfl) (by kernel_rfl) (fun _ _ _ h => h) (Or.inl ⟨by rfl, ?_⟩) hS ?_
    rotate_left
    · intro w hSw
      (try dsimp only at hSw)
      go_simp
      (try with_reducible rfl)
    try simp (maxSteps := 10000000) only [Act.put, List.setIfInBounds_toArray, List.set_cons_zero, List.set_cons_succ, List.getElem_toArray, List.getElem_cons_zero, List.getElem_cons_succ]
    refine wpAnyH_take (i := 7) (v := ?_) rfl (by kernel_rfl) (by kernel_rfl) (by kernel_rfl) (fun _ _ _ h => h) (Or.inl ⟨by rfl, ?_⟩) hS ?_
    rotate_left
    · intro w hSw
      (try dsimp only at hSw)
      go_simp
      (try with_reducible rfl)
    try simp (maxSteps := 10000000) only [Act.put, List.setIfInBounds_toArray, List.set_cons_zero, List.set_cons_succ, List.getElem_toArray, List.getElem_cons_zero, List.getElem_cons_succ]
    refine wpAnyH_take (i := 8) (v := ?_) rfl (by kernel_rfl) (by kernel_rfl) (by kernel_rfl) (fun _ _ _ h => h) (Or.inl ⟨by rfl, ?_⟩) hS ?_
    rotate_left
    · intro w hSw
      (try dsimp only at hSw)
      go_simp
      (try with_reducible rfl)
    try simp (maxSteps := 10000000) only [Act.put, List.setIfInBounds_toArray, List.set_cons_zero, List.set_cons_succ, List.getElem_toArray, List.getElem_cons_zero, List.getElem_cons_succ]
    refine wpAnyH_take (i := 9) (v := undef) rfl (by kernel_rfl) (by kernel_rfl) (by kernel_rfl) (fun _ _ _ h => h) (Or.inr ⟨by rfl, rfl⟩) hS ?_
    try simp (maxSteps := 10000000) only [Act.put, List.setIfInBounds_toArray, List.set_cons_zero, List.set_cons_succ, List.getElem_toArray, List.getElem_cons_zero, List.getElem_cons_succ]
    refine wpAnyH_take (i := 10) (v := undef) rfl (by kernel_rfl) (by kernel_rfl) (by kernel_rfl) (fun _ _ _ h => h) (Or.inr ⟨by rfl, rfl⟩) hS ?_
    try simp (maxSteps := 10000000) only [Act.put, List.setIfInBounds_toArray, List.set_cons_zero, List.set_cons_succ, List.getElem_toArray, List.getElem_cons_zero, List.getElem_cons_succ]
    refine wpAnyH_take (i := 11) (v := undef) rfl (by kernel_rfl) (by kernel_rfl) (by kernel_rfl) (fun _ _ _ h => h) (Or.inr ⟨by rfl, rfl⟩) hS ?_
    try simp (maxSteps := 10000000) only [Act.put, List.setIfInBounds_toArray, List.set_cons_zero, List.set_cons_succ, List.getElem_toArray, List.getElem_cons_zero, List.getElem_cons_succ]
    refine wpAnyH_take (i := 12) (v := ?_) rfl (by kernel_rfl) (by kernel_rfl) (by kernel_rfl) (fun _ _ _ h => h) (Or.inl ⟨by rfl, ?_⟩) hS ?_
    rotate_left
    · intro w hSw
      (try dsimp only at hSw)
      go_simp
      (try with_reducible rfl)
    try simp (maxSteps := 10000000) only [Act.put, List.setIfInBounds_toArray, List.set_cons_zero, List.set_cons_succ, List.getElem_toArray, List.getElem_cons_zero, List.getElem_cons_succ]
    refine wpAnyH_done (by kernel_rfl) (NoPanic.normal ?_) _
    have f2 := p2.frozen 0
    have c2 := p2.cell 0
    have p3x := p3.far (p := ⟨s2, 0, none⟩) (by have := HS.out; simp; omega) (.int .i64 0)
    have f3 := p3x.frozen 0
    have c3 := p3x.cell 0
    have r2 : ∀ u, ((W.setCell ⟨s2, 0, none⟩ (.int .i64 0)).setCell ⟨s3, 0, none⟩ u).cell? ⟨s2, 0, none⟩ = some (.int .i64 0) := fun u => ((p2.set_ 0 (.int .i64 0)).far (p := ⟨s3, 0, none⟩) (by have := HS.out; simp; omega) u).cell 0
    have r3 := fun u => (p3x.set_ 0 u).cell 0

    clear c1 c6 cg
    go_wp2
    refine ⟨_, results_cells rfl _ rfl rfl (r2 _) (r3 _), by rw [HV3.out], ?_⟩
    exact (by rw [H0.out]; exact below_drewN ((hb2.setCell (p := ⟨s2, 0, none⟩) (by have := HS.out; simp; omega) _).setCell (p := ⟨s3, 0, none⟩) (by have := HS.out; simp; omega) _) 1)

theorem fCkBounds (b : Int) (A : Option Addr) (n c : Nat) (ps : List (Int × Int)) (D : Option Addr) (N dc : Nat) (Rs : List (List (Int × Int))) (w : World) (hx : Rp w w.heap.size A n ps) (hn : n ≤ 1048576) (hc : n ≤ c) (hD : Bd w w.heap.size D N Rs) (hN : N ≤ 1048576) (hLs : Hid (∀ L ∈ Rs, L.length ≤ 1048576)) :
    Calls Try.prog 36 #[.agg #[.int .i64 b, .slice A n c], .slice D N dc] w (RetII w (ckBoundsS b ps Rs).1 (ckBoundsS b ps Rs).2) := by
  by_cases h : checkPier b ps = 0
  · exact fCkBounds_ok b A n c ps D N dc Rs w hx hn hc hD hN hLs (Lib.hid (checkPier_ok.1 h)) _ (Lib.hid (by unfold ckBoundsS; rw [if_pos h]))
  · have e : ckBoundsS b ps Rs = (0, checkPier b ps) := by unfold ckBoundsS; rw [if_neg h]
    rw [e]
    exact fCkBounds_err b A n c ps D N dc w hx hn _ (Lib.hid rfl) h
end Go.Proofs.Ytaekjnjignlmoaa
