/-
  The iterator 'payable': what it yields.
-/
import Derived.Test.YtloibnmhgocboaaTill
import Derived.Test.YtloibnmhgocboaaMapIn
import Derived.Test.YtloibnmhgocboaaPQ
import Derived.Test.YtloibnmhgocboaaPL
import Derived.RangeFuncCalls
import Derived.RangeFuncLeaves
import Derived.LoopIn
import Derived.LoopNIn
import Derived.OwnWalkIn
import Derived.TacticsInMore
import Derived.Sort.QuietIn
namespace Go.Proofs.Ytloibnmhgocboaa
open Go.RowKit Go.Shelf
attribute [local go_sem] Oper.semAt_some

/-- Maps, what lay ahead of B0, and two blocks are as they were. -/
structure Kp (B0 p q : Nat) (A B : World) : Prop where
  walks : KeepsWalks A B
  below : Below B0 A B
  one : B.heap[p]? = A.heap[p]?
  two : B.heap[q]? = A.heap[q]?
theorem Kp.trans {B0 p q : Nat} {A B C : World} (h : Kp B0 p q A B) (k : Kp B0 p q B C) : Kp B0 p q A C := ⟨h.walks.trans k.walks, h.below.trans k.below, k.one.trans h.one, k.two.trans h.two⟩
/-- What the iterator knows of the world since its start. -/
structure Kq (B0 p q : Nat) (A B : World) : Prop where
  below : Below B0 A B
  one : B.heap[p]? = A.heap[p]?
  two : B.heap[q]? = A.heap[q]?
theorem Kq.refl (B0 p q : Nat) (A : World) : Kq B0 p q A A := ⟨Below.refl _ _, rfl, rfl⟩
theorem Kq.kp {B0 p q : Nat} {A B C : World} (h : Kq B0 p q A B) (k : Kp B0 p q B C) : Kq B0 p q A C := ⟨h.below.trans k.below, k.one.trans h.one, k.two.trans h.two⟩
theorem Kq.own {B0 p q b : Nat} {A B C : World} (h : Kq B0 p q A B) (hg : B.grownBy C (some b)) (hb : A.heap.size ≤ b) (h0 : B0 ≤ A.heap.size) (hp : p < A.heap.size) (hq : q < A.heap.size) : Kq B0 p q A C :=
  ⟨h.below.grown hg (Nat.le_trans h0 h.below.size) (fun k e => by cases e; omega), (hg.block p (Nat.lt_of_lt_of_le hp h.below.size) (fun e => by cases e; omega)).trans h.one, (hg.block q (Nat.lt_of_lt_of_le hq h.below.size) (fun e => by cases e; omega)).trans h.two⟩
theorem Kq.cell {B0 p q : Nat} {A B : World} (h : Kq B0 p q A B) (i : Nat) : B.cell? ⟨p, i, none⟩ = A.cell? ⟨p, i, none⟩ ∧ B.cell? ⟨q, i, none⟩ = A.cell? ⟨q, i, none⟩ := by
  unfold World.cell?
  rw [h.one, h.two]
  exact ⟨rfl, rfl⟩
theorem grown_drewN (w : World) (k : Nat) : w.grownBy (w.drewN k) none := ⟨rfl, rfl, rfl, Nat.le_refl _, fun _ _ _ => rfl⟩
theorem abide_own {β : Type} {B b : Nat} {J : β → World → Prop} (hJ : AbidesFrom B J) {s : β} {W W' : World} (h : J s W) {n : Nat} {f : Int × Int → Option Int} (hm : Ms W b n f) (hg : W.grownBy W' (some b)) (hb : B ≤ b) : J s W' :=
  hJ s W W' _ h hg (fun r e => by cases e; exact ⟨hb, hm.walk⟩)

set_option maxRecDepth 100000 in
set_option maxHeartbeats 4000000 in
theorem pay_in (n : Nat) (hn : 1 ≤ n) (l bp bm g B0 : Nat) (A : Option Addr) (nc c m : Nat) (st cs : List Int) (M : Nat) (hM : M ≤ 300) (HG : Hid (Good cs)) (hg : g < B0)
    (J Jx : List Py → World → Prop) (W : World) (hJ : AbidesFrom W.heap.size J)
    (hY : ∀ pre x W1, J pre W1 → pre.length < 302 → YieldAt Fence.wide (n - 1) Try.prog l #[.int .i64 ((x : Py).1.1 : Int), .int .i64 (x : Py).2] W1 fun e W' =>
      (e = .returned (.bool true) ∧ J (pre ++ [x]) W' ∧ Kp B0 bp bm W1 W') ∨ (e = .returned (.bool false) ∧ Jx (pre ++ [x]) W'))
    (hx : Ri W B0 A nc cs) (kg : Bk W g 84 (tillCells A nc c m st)) (hB0 : B0 ≤ W.heap.size) (hbp : bp < W.heap.size) (hbm : bm < W.heap.size)
    (kp : W.cell? ⟨bp, 0, none⟩ = some (.pointer (some ⟨g, 0, none⟩))) (km : W.cell? ⟨bm, 0, none⟩ = some (.int .i64 (M : Int))) (h0 : J [] W) :
    CallsIn Fence.wide n Try.prog 86 #[.func (.yield l) #[] #[], .pointer (some ⟨bp, 0, none⟩), .pointer (some ⟨bm, 0, none⟩)] W fun e W' => (∃ v, e = .returned v) ∧
      ((∃ ys, ys = py cs (M + 1) ∧ J ys W') ∨ (∃ pre, True ∧ Jx pre W')) := by
  have HL := Lib.hid hx.len
  have HC1 : Hid (∀ c ∈ cs, 1 ≤ c) := Lib.hid HG.out.pos
  have hn1 : 1 ≤ nc := by rw [← HL.out]; exact HG.out.lo
  have hn5 : nc ≤ 5 := by rw [← HL.out]; exact HG.out.hi
  obtain ⟨t, HT⟩ : ∃ t, Hid (nc = t + 1) := ⟨nc - 1, Lib.hid (by omega)⟩
  have htn : t < nc := by rw [HT.out]; omega
  obtain ⟨ad, last, rfl, hadb, hcl, hlk, _⟩ := hx.at_ htn
  have HLAST : Hid (nth cs t = last) := Lib.hid (nth_some hlk.out)
  have hlr := HG.out.all last (List.mem_of_getElem? hlk.out)
  obtain ⟨hl1, hl50⟩ := hlr
  have HLM : Hid (∀ x ∈ cs, x ≤ last) := Lib.hid (fun x hxm => by
    obtain ⟨j, hj, he⟩ := List.getElem_of_mem hxm
    have ej : nth cs j = x := by rw [nth, List.getElem?_eq_getElem hj]; exact he
    rw [← ej, ← HLAST.out]
    exact asc_le HG.out (by have := HL.out; have := HT.out; omega) (by rw [HL.out]; exact htn))
  have hmm := @run_makeMap Try.prog
  have hi1 : (nc : Int) - 1 = t := by rw [HT.out]; omega
  have hi2 : IntKind.i64.wrap ((nc : Int) - 1) = t := by rw [hi1]; exact IntWalk.i64_in _ (by omega)
  have kt0 : W.cell? ⟨g, 0, none⟩ = some (.slice (some ad) nc c) := kg.cell 0
  refine callsIn_of_wp Try.func86 rfl trivial ?_ rfl
  simp only [Try.ntmps86, List.size_toArray, List.length_cons, List.length_nil, Nat.reduceAdd, Nat.reduceSub, Array.replicate_succ, Array.replicate_zero, List.push_toArray, List.append_toArray, List.nil_append, List.cons_append]
  have hms0 := Ms.made W
  have hJ1 : J [] (W.alloc (.map #[] 0)) := hJ [] W _ none h0 (World.grownBy_alloc W _ none) (fun r e => by cases e)
  have hq1 : Kq B0 bp bm W (W.alloc (.map #[] 0)) := ⟨(Below.refl _ W).alloc hB0 _, Below.heap_alloc W _ bp hbp, Below.heap_alloc W _ bm hbm⟩
  gi_wp2_with (refine Ms.insert_in rfl _ _ _ rfl (0, 0) 0 rfl hms0 (by omega) (in64_of (by omega) (by omega)) (WalkArith.wf_i64 (by omega)) rfl rfl ?_; intro w2 hms2 hgr2)
  have kq2 := hq1.own hgr2 (Nat.le_refl _) hB0 hbp hbm
  have hJ2 : J [] w2 := abide_own hJ hJ1 hms0 hgr2 (Nat.le_refl _)
  have kp2 := (kq2.cell 0).1.trans kp
  have km2 := (kq2.cell 0).2.trans km
  have kt2 : w2.cell? ⟨g, 0, none⟩ = some (.slice (some ad) nc c) := (kq2.below.cell (p := ⟨g, 0, none⟩) hg).trans kt0
  have cl2 : w2.cell? (ad.add t) = some (.int .i64 last) := (kq2.below.cell (by rw [addr_block]; exact hadb)).trans hcl
  have HW0 : Hid (Win cs last 0 (upd (fun _ => none) (0, 0) 0)) := Lib.hid (win_start cs hl1)
  clear hmm hms0 hJ1 hq1 hgr2 h0
  gi_quiet (fail)
  gi_wp2
  have hJ3 : J (py cs 0) (w2.drewN nq) := hJ [] w2 _ none hJ2 (grown_drewN _ _) (fun r e => by cases e)
  have hq3 : Kq B0 bp bm W (w2.drewN nq) := ⟨below_drewN kq2.below nq, kq2.one, kq2.two⟩
  have hms3 : Ms (w2.drewN nq) W.heap.size (0 + 1) _ := hms2.drewN nq
  clear hJ2 kq2 hms2 kt2 cl2 kp2 km2
  gi_loopw [32] (fun i wr => ∃ (a N : Nat) (f : Int × Int → Option Int), a ≤ M + 1 ∧ i = .int .i64 (a : Int) ∧ J (py cs a) wr ∧ Ms wr W.heap.size N f ∧ N ≤ a + 1 ∧ Kq B0 bp bm W wr ∧ Hid (Win cs last a f)) (fun i _ => M + 1 - (intOf i).toNat)
  case atStart => exact ⟨0, _, _, Nat.zero_le _, rfl, hJ3, hms3, by omega, hq3, HW0⟩
  case round =>
    clear hJ3 hq3 hms3 HW0
    obtain ⟨a, N, f, ha, rfl, hJa, hms, hN, hq, HW⟩ := hrel
    have kp2 := (hq.cell 0).1.trans kp
    have kt2 : wr.cell? ⟨g, 0, none⟩ = some (.slice (some ad) nc c) := (hq.below.cell (p := ⟨g, 0, none⟩) hg).trans kt0
    have hxr := hx.below hq.below
    by_cases hlt : a < M + 1
    · have ha300 : a ≤ 300 := by omega
      obtain ⟨ok0, HOK0⟩ : ∃ ok0 : Bool, Hid (decide (a = 0) = ok0) := ⟨_, Lib.hid rfl⟩
      have HF0 : Hid (f (0, (a : Int)) = if ok0 then some 0 else none) := Lib.hid (by
        rw [win_own hl1 HW.out, ← HOK0.out]
        by_cases h : a = 0
        · rw [if_pos h, decide_eq_true h, if_pos rfl]
        · rw [if_neg h, decide_eq_false h, if_neg (by decide)])
      have HZ0 : Hid (ok0 = false → (0 : Int) = 0) := Lib.hid (fun _ => rfl)
      have HS0 : Hid (fewStart a = if ok0 then (0 : Int) else -1) := Lib.hid (by
        unfold fewStart
        rw [← HOK0.out]
        by_cases h : a = 0
        · rw [if_pos h, decide_eq_true h, if_pos rfl]
        · rw [if_neg h, decide_eq_false h, if_neg (by decide)])
      have hin0 : in64 (0, (a : Int)) := in64_of (by omega) (by omega)
      gi_wp2_with (gi_at_lookup; refine Ms.look_in rfl _ _ rfl rfl hms (0, (a : Int)) rfl hin0 0 ok0 HF0 HZ0 ?_)
      gi_loop [7, 8, 48] (fun nn okv i => ∃ (j : Nat) (z : Int) (ok : Bool), j ≤ nc ∧ i = .int .i64 j ∧ nn = .int .i64 z ∧ okv = .bool ok ∧ 0 ≤ z ∧ z ≤ 1000 ∧ Hid ((cs.take j).foldl (fewStep (fewL cs a) (a : Int)) (fewStart a) = if ok then z else -1)) (fun _ _ i => nc - (intOf i).toNat)
      case atStart => exact ⟨0, 0, ok0, Nat.zero_le _, rfl, rfl, rfl, by omega, by omega, HS0⟩
      case round =>
        obtain ⟨j, z, ok, hj, rfl, rfl, rfl, hz0, hz1, HZ⟩ := hrel
        by_cases hlt2 : j < nc
        · obtain ⟨ad', x, hA, _, hcx, hxk, _⟩ := hxr.at_ hlt2
          cases hA
          have hx1 := HC1.out x (List.mem_of_getElem? hxk.out)
          have hx50 := (HG.out.all x (List.mem_of_getElem? hxk.out)).2
          have HWB := Lib.hid (win_back HW.out hx1 (HLM.out x (List.mem_of_getElem? hxk.out)))
          have HST : Hid ((cs.take (j + 1)).foldl (fewStep (fewL cs a) (a : Int)) (fewStart a) = fewStep (fewL cs a) (a : Int) (if ok then z else -1) x) := Lib.hid (by rw [take_snoc hxk.out, List.foldl_append, HZ.out]; rfl)
          have hw1 : IntKind.i64.wrap ((a : Int) - x) = (a : Int) - x := IntWalk.i64_in _ (by omega)
          have hinx : in64 (0, (a : Int) - x) := in64_of (by omega) (by dsimp only; omega)
          by_cases hback : (a : Int) < x ∨ few cs ((a : Int) - x).toNat < 0
          · have HFX : Hid (f (0, (a : Int) - x) = if false then some (0 : Int) else none) := Lib.hid (by rw [HWB.out, if_pos hback]; rfl)
            have HZX : Hid (false = false → (0 : Int) = 0) := Lib.hid (fun _ => rfl)
            have HE : Hid (fewStep (fewL cs a) (a : Int) (if ok then z else -1) x = if ok then z else -1) := Lib.hid (by
              unfold fewStep
              rw [if_pos]
              rcases hback with h | h
              · exact .inl h
              · by_cases h2 : (a : Int) < x
                · exact .inl h2
                · exact .inr (by rw [nth_fewL cs (by omega)]; exact h))
            clear hback
            gi_wp2_with (gi_at_lookup; refine Ms.look_in rfl _ _ rfl rfl hms (0, (a : Int) - x) rfl hinx 0 false HFX HZX ?_)
            go_round
            case rel => exact ⟨j + 1, z, ok, by omega, by go_num, rfl, rfl, hz0, hz1, Lib.hid (HST.out.trans HE.out)⟩
            case measure => simp [intOf]; omega
          · obtain ⟨y, HY⟩ : ∃ y, Hid (few cs ((a : Int) - x).toNat = y) := ⟨_, Lib.hid rfl⟩
            have hyb := few_le HC1.out ((a : Int) - x).toNat
            rw [HY.out] at hyb
            have hy0 : 0 ≤ y := by rw [← HY.out]; omega
            have hy1 : y ≤ 300 := by omega
            clear hyb
            have HFX : Hid (f (0, (a : Int) - x) = if true then some y else none) := Lib.hid (by rw [HWB.out, if_neg hback, HY.out]; rfl)
            have HZX : Hid (true = false → y = 0) := Lib.hid (fun h => by cases h)
            have HE : Hid (fewStep (fewL cs a) (a : Int) (if ok then z else -1) x = if (if ok then z else -1) < 0 ∨ y + 1 < (if ok then z else -1) then y + 1 else (if ok then z else -1)) := Lib.hid (by
              unfold fewStep
              rw [nth_fewL cs (by omega), HY.out, if_neg (by omega)])
            clear hback
            have hw2 : IntKind.i64.wrap (y + 1) = y + 1 := IntWalk.i64_in _ (by omega)
            cases ok
            · have HE2 : Hid (fewStep (fewL cs a) (a : Int) (if false then z else -1) x = if true then y + 1 else -1) := Lib.hid (by rw [HE.out]; simp)
              gi_wp2_with (gi_at_lookup; refine Ms.look_in rfl _ _ rfl rfl hms (0, (a : Int) - x) rfl hinx y true HFX HZX ?_)
              go_round
              case rel => exact ⟨j + 1, y + 1, true, by omega, by go_num, rfl, rfl, by omega, by omega, Lib.hid (HST.out.trans HE2.out)⟩
              case measure => simp [intOf]; omega
            · by_cases hyz : y + 1 < z
              · have HE2 : Hid (fewStep (fewL cs a) (a : Int) (if true then z else -1) x = if true then y + 1 else -1) := Lib.hid (by rw [HE.out]; simp [hyz])
                gi_wp2_with (gi_at_lookup; refine Ms.look_in rfl _ _ rfl rfl hms (0, (a : Int) - x) rfl hinx y true HFX HZX ?_)
                go_round
                case rel => exact ⟨j + 1, y + 1, true, by omega, by go_num, rfl, rfl, by omega, by omega, Lib.hid (HST.out.trans HE2.out)⟩
                case measure => simp [intOf]; omega
              · have HE2 : Hid (fewStep (fewL cs a) (a : Int) (if true then z else -1) x = if true then z else -1) := Lib.hid (by
                  rw [HE.out, if_neg]
                  simp only [if_true]
                  omega)
                gi_wp2_with (gi_at_lookup; refine Ms.look_in rfl _ _ rfl rfl hms (0, (a : Int) - x) rfl hinx y true HFX HZX ?_)
                go_round
                case rel => exact ⟨j + 1, z, true, by omega, by go_num, rfl, rfl, hz0, hz1, Lib.hid (HST.out.trans HE2.out)⟩
                case measure => simp [intOf]; omega
        · have HFEW : Hid (few cs a = if ok then z else -1) := Lib.hid (by
            have h := HZ.out
            rw [List.take_of_length_le (by rw [HL.out]; omega), few_fold cs HC1.out] at h
            exact h)
          have hwl : IntKind.i64.wrap ((a : Int) - last) = (a : Int) - last := IntWalk.i64_in _ (by omega)
          have hinl : in64 (0, (a : Int) - last) := in64_of (by omega) (by dsimp only; omega)
          cases ok
          · have HFN : Hid (few cs a < 0) := Lib.hid (by rw [HFEW.out]; simp)
            gi_wp2_with (gi_at_delete; refine Ms.delete_in rfl _ _ rfl rfl hms (0, (a : Int) - last) rfl hinl ?_; intro w4 hms4 hgr4)
            have hJ4 := abide_own hJ hJa hms hgr4 (Nat.le_refl _)
            have hq4 := hq.own hgr4 (Nat.le_refl _) hB0 hbp hbm
            go_roundw
            case rel => exact ⟨a + 1, N, _, by omega, by go_num, by rw [py_no HFN.out]; exact hJ4, hms4, by omega, hq4, Lib.hid (win_skip hl1 HW.out HFN.out)⟩
            case measure => simp [intOf]; omega
          · have HFZ : Hid (few cs a = z) := Lib.hid (by rw [HFEW.out]; rfl)
            have HF0' : Hid (0 ≤ few cs a) := Lib.hid (by rw [HFZ.out]; exact hz0)
            have hwfz : (Lit.int .i64 z).wf = true := WalkArith.wf_i64 (by omega)
            gi_wp2_with (first
              | (gi_at_delete; refine Ms.delete_in rfl _ _ rfl rfl hms (0, (a : Int) - last) rfl hinl ?_; intro w4 hms4 hgr4; have hJ4 := abide_own hJ hJa hms hgr4 (Nat.le_refl _); have hq4 := hq.own hgr4 (Nat.le_refl _) hB0 hbp hbm)
              | (gi_at_mapUpdate; refine Ms.store_in rfl _ _ _ rfl (0, (a : Int)) z rfl hms4 (by omega) hin0 hwfz rfl rfl ?_; intro w5 hms5 hgr5; have hJ5 := abide_own hJ hJ4 hms4 hgr5 (Nat.le_refl _); have hq5 := hq4.own hgr5 (Nat.le_refl _) hB0 hbp hbm; have hpl := py_len cs a; obtain ⟨fn, tmps, assign, body, hy, hR⟩ := hY (py cs a) (⟨a, ha300⟩, z) w5 hJ5 (by omega); dsimp only at hy))
            have HPY : Hid (py cs (a + 1) = py cs a ++ [(⟨a, ha300⟩, z)]) := Lib.hid (by rw [py_yes ha300 HF0'.out, HFZ.out])
            have HWP : Hid (Win cs last (a + 1) (upd (cutP f (0, (a : Int) - last)) (0, (a : Int)) z)) := Lib.hid (by
              have h := win_put hl1 HW.out HF0'.out
              rw [HFZ.out] at h
              exact h)
            refine hR.mono ?_
            rintro e W3 (⟨rfl, hJ6, hk6⟩ | ⟨rfl, hJx6⟩)
            · have hms6 : Ms W3 W.heap.size (N + 1) (upd (cutP f (0, (a : Int) - last)) (0, (a : Int)) z) := by
                obtain ⟨es, cl, ho⟩ := hms5.obj
                exact hms5.same ((hk6.walks.same _ _ ho rfl).trans ho.symm)
              have hq6 := hq5.kp hk6
              gi_wp2
              go_roundw
              case rel => exact ⟨a + 1, N + 1, _, by omega, by go_num, by rw [HPY.out]; exact hJ6, hms6, by omega, hq6, HWP⟩
              case measure => simp [intOf]; omega
            · gi_wp2
              refine bodyPost_ret (results_none rfl _ _ _) rfl ?_
              exact ⟨⟨_, rfl⟩, .inr ⟨_, trivial, hJx6⟩⟩
    · obtain rfl : a = M + 1 := by omega
      gi_wp2
      go_end0
      exact ⟨⟨_, rfl⟩, .inl ⟨_, rfl, hJa⟩⟩
theorem cell_eq {A B : World} {k : Nat} (e : B.heap[k]? = A.heap[k]?) (i : Nat) : B.cell? ⟨k, i, none⟩ = A.cell? ⟨k, i, none⟩ := by
  unfold World.cell?
  rw [e]
theorem pay_stops (n : Nat) (hn : 1 ≤ n) (bp bm g B0 : Nat) (A : Option Addr) (nc c m : Nat) (st cs : List Int) (M : Nat) (hM : M ≤ 300) (HG : Hid (Good cs)) (w : World) (hg : g < B0) (hx : Ri w B0 A nc cs) (kg : Bk w g 84 (tillCells A nc c m st)) (hB0 : B0 ≤ w.heap.size) (hbp : bp < w.heap.size) (hbm : bm < w.heap.size)
    (kp : w.cell? ⟨bp, 0, none⟩ = some (.pointer (some ⟨g, 0, none⟩))) (km : w.cell? ⟨bm, 0, none⟩ = some (.int .i64 (M : Int))) :
    SeqStopsK Fence.wide n Try.prog 86 #[.pointer (some ⟨bp, 0, none⟩), .pointer (some ⟨bm, 0, none⟩)] (fun x : Py => #[.int .i64 (x.1.1 : Int), .int .i64 x.2]) (Kp B0 bp bm) (fun ys => ys = py cs (M + 1)) (fun _ => True) 302 w := fun l J Jx W hW hJ _ hY h0 =>
  pay_in n hn l bp bm g B0 A nc c m st cs M hM HG hg J Jx W hJ hY (hx.below' hW hB0) (kg.below hW (by omega)) (Nat.le_trans hB0 hW.size) (Nat.lt_of_lt_of_le hbp hW.size) (Nat.lt_of_lt_of_le hbm hW.size)
    ((cell_eq (hW.block bp hbp) 0).trans kp) ((cell_eq (hW.block bm hbm) 0).trans km) h0
end Go.Proofs.Ytloibnmhgocboaa
