/-
  The program: fewest, out of the stock.
-/
import Derived.Test.YtloibnmhgocboaaF7
import Derived.Test.YtloibnmhgocboaaPQ
import Derived.Test.YtloibnmhgocboaaStill
import Derived.StillTailTactics
namespace Go.Proofs.Ytloibnmhgocboaa
open Go.RowKit Go.Shelf Go.Maps

section
variable {w w' : World} {b r n cnt : Nat} {f : Int × Int → Option Int}
variable {ops : Array Oper} {rest : List Oper} {o : Oper} {a : Act} {Q : Exit → Act → World → Prop}
theorem Ms.look_op (hg : o.guard = none) (m x : Operand) (hop : o.op = Op.lookup 80 m x true) (hm : a.eval m = .map (some b)) (h : Ms w b n f) (p : Int × Int) (hx : a.eval x = bkV p) (hp : in64 p) (z : Int) (ok : Bool) (hf : Hid (f p = if ok then some z else none)) (hz : Hid (ok = false → z = 0))
    (hK : wpList Try.prog ops Q rest (a.put o.dst (.tuple #[.int .i64 z, .bool ok])) w) : wpList Try.prog ops Q (o :: rest) a w := by
  refine Ms.lookup_op hg m x hop hm h p hx hp (fun h0 => ?_) (fun v h0 => ?_)
  · cases ok with
    | true => have := hf.out; rw [h0, if_pos rfl] at this; cases this
    | false => have := hz.out rfl; subst this; exact hK
  · cases ok with
    | true => have := hf.out; rw [h0, if_pos rfl] at this; cases this; exact hK
    | false => have := hf.out; rw [h0, if_neg (by decide)] at this; cases this
theorem Ms.run_look (h : Ms w b n f) {k a : Int} (hp : in64 (k, a)) (z : Int) (ok : Bool) (hf : Hid (f (k, a) = if ok then some z else none)) (hz : Hid (ok = false → z = 0)) :
    (Instr.lookup 80 (.map (some b)) (.agg #[.int .i64 k, .int .i64 a]) true).run Try.prog w = .ok (.tuple #[.int .i64 z, .bool ok]) w := by
  obtain ⟨D, h1, h2⟩ := h
  obtain ⟨v, ps, hrun, hv⟩ := h1.look_ok bk_law Try.underlying80 (zero_e w) (plainElem_int under_e (WalkArith.wf_i64 (by omega))) (bk_keyOf hp)
  obtain ⟨c', rfl, hc', hwc⟩ := plainElem_int_inv under_e hv
  rw [show bkV (k, a) = Value.agg #[.int .i64 k, .int .i64 a] from rfl] at hrun
  rw [hrun]
  have hh := h2.2.1 (k, a) hp
  have hat := congrArg Prod.fst hc'
  rw [hf.out] at hh
  cases ok with
  | true =>
    rw [if_pos rfl] at hh
    rw [hh]
    have e := h2.2.2 (k, a) z hp (by rw [hf.out, if_pos rfl]) (.lit (.int .i64 0))
    rw [show D.atKey (bkL (k, a)) (.lit (.int .i64 0)) = .lit (.int .i64 c') from hat] at e
    cases e
    rfl
  | false =>
    rw [if_neg (by decide)] at hh
    have := hz.out rfl
    subst this
    rw [show Maps.has D (bkL (k, a)) = false from hh]
    have e3 := atKey_of_not_has (show Maps.has D (bkL (k, a)) = false from hh) (.lit (.int .i64 0))
    rw [show D.atKey (bkL (k, a)) (.lit (.int .i64 0)) = .lit (.int .i64 c') from hat] at e3
    cases e3
    rfl
end
theorem grown_drew (w : World) : w.grownBy w.drew none := ⟨rfl, rfl, rfl, Nat.le_refl _, fun _ _ _ => rfl⟩
/-- What 'fewest' comes to. -/
def FewR (cs st : List Int) (w : World) (m k : Nat) (f0 : Int × Int → Option Int) (v : Int) (e : Ending) (w' : World) : Prop := e = .returned (.int .i64 v) ∧ ∃ (N : Nat) (f : Int × Int → Option Int), Ms w' m N f ∧ Hid (Memo cs st f) ∧ Hid (N + room f ≤ 2000) ∧ w.grownBy w' (some m) ∧ Hid (∀ p : Int × Int, p.1 < (k : Int) → f p = f0 p)

set_option maxRecDepth 100000 in
set_option maxHeartbeats 4000000 in
theorem dFewest_end (g m : Nat) (A : Option Addr) (n c : Nat) (cs st : List Int) (hl : cs.length = n) (hn5 : n ≤ 5) (a N : Nat) (f : Int × Int → Option Int) (w : World) (ha : a ≤ 300) (ht : Till w g m N A n c st f) (HM : Hid (Memo cs st f)) (HN : Hid (N + room f ≤ 2000)) :
    Calls Try.prog 83 #[.pointer (some ⟨g, 0, none⟩), .agg #[.int .i64 (n : Int), .int .i64 (a : Int)]] w (FewR cs st w m n f (if a = 0 then 0 else -1)) := by
  have kg := ht.bk
  have k0 : w.cell? ⟨g, 0, none⟩ = some (.slice A n c) := kg.cell 0
  have hgl := kg.lt
  have hms := ht.ms
  clear ht
  have k1 : (w.alloc (.cells #[.int .i64 (n : Int), .int .i64 (a : Int)] 95)).cell? ⟨g, 0, none⟩ = some (.slice A n c) := (World.cell?_alloc_lt w _ _ hgl).trans k0
  have hS := Bk.new w 95 #[.int .i64 (n : Int), .int .i64 (a : Int)]
  have s0 : (w.alloc (.cells #[.int .i64 (n : Int), .int .i64 (a : Int)] 95)).cell? ⟨w.heap.size, 0, none⟩ = some (.int .i64 (n : Int)) := hS.cell 0
  have s1 : (w.alloc (.cells #[.int .i64 (n : Int), .int .i64 (a : Int)] 95)).cell? ⟨w.heap.size, 1, none⟩ = some (.int .i64 (a : Int)) := hS.cell 1
  have hms1 := hms.alloc (.cells #[.int .i64 (n : Int), .int .i64 (a : Int)] 95)
  have hgr := World.grownBy_alloc w (.cells #[.int .i64 (n : Int), .int .i64 (a : Int)] 95) (some m)
  by_cases h0 : a = 0
  · subst h0
    go_enter Try.func83, Try.ntmps83
    go_wp2
    go_quiet (fail)
    go_wp2
    go_ret
    exact ⟨rfl, N, f, hms1.drewN _, HM, HN, hgr.trans ((grown_drewN _ _).but _), Lib.hid fun _ _ => rfl⟩
  · by_cases h1 : a = 1
    · subst h1
      go_enter Try.func83, Try.ntmps83
      go_wp2
      go_quiet (fail)
      go_wp2
      go_ret
      exact ⟨rfl, N, f, hms1.drewN _, HM, HN, hgr.trans ((grown_drewN _ _).but _), Lib.hid fun _ _ => rfl⟩
    · have ha1 : (1 : Int) < a := by omega
      rw [if_neg h0]
      clear h0 h1
      go_enter Try.func83, Try.ntmps83
      go_wp2
      go_quiet (fail)
      go_wp2
      go_ret
      exact ⟨rfl, N, f, hms1.drewN _, HM, HN, hgr.trans ((grown_drewN _ _).but _), Lib.hid fun _ _ => rfl⟩

set_option maxRecDepth 100000 in
set_option maxHeartbeats 8000000 in
theorem dFewest (g m : Nat) (A : Option Addr) (n c : Nat) (cs st : List Int) (hcl : cs.length = n) (hsl : st.length = n) (hn5 : n ≤ 5) (HC : Hid (∀ x ∈ cs, 1 ≤ x ∧ x ≤ 50)) (HS : Hid (∀ x ∈ st, 0 ≤ x ∧ x ≤ 300)) : ∀ (d k : Nat), k + d = n → ∀ (a N : Nat) (f : Int × Int → Option Int) (w : World), a ≤ 300 → Till w g m N A n c st f → Ri w w.heap.size A n cs → Hid (∀ r : Nat, A.map Addr.block = some r → r ≠ m) → Hid (Memo cs st f) → Hid (N + room f ≤ 2000) →
    Calls Try.prog 83 #[.pointer (some ⟨g, 0, none⟩), .agg #[.int .i64 (k : Int), .int .i64 (a : Int)]] w (FewR cs st w m k f (gmin (cs.drop k) (st.drop k) a)) := by
  intro d
  induction d with
  | zero =>
    intro k hk a N f w ha ht hx HA HM HN
    obtain rfl : k = n := by omega
    have e : gmin (cs.drop k) (st.drop k) a = if a = 0 then 0 else -1 := by
      subst hcl
      rw [gmin_end]
      by_cases h : a = 0
      · subst h; rfl
      · rw [if_neg h, if_neg (by omega)]
    rw [e]
    exact dFewest_end g m A k c cs st hcl hn5 a N f w ha ht HM HN
  | succ d ih =>
    intro k hk a N f w ha ht hx HA HM HN
    have IH := Lib.hid (ih (k + 1) (by omega))
    clear ih
    have hkn : k < n := by omega
    have HKD : Hid (k + (d + 1) = n) := Lib.hid hk
    clear hk
    have kg := ht.bk
    have hgl := kg.lt
    have hms := ht.ms
    have hgm := ht.ne
    clear ht
    have hml := hms.lt
    have HG := Lib.hid (gmin_drop (cs := cs) (st := st) (k := k) (by omega) (by omega) (a : Int))
    have HLC := Lib.hid hcl
    have HLS := Lib.hid hsl
    have hk5 : k < 5 := by omega
    obtain ⟨v, HV⟩ : ∃ v, Hid (gmin (cs.drop k) (st.drop k) (a : Int) = v) := ⟨_, Lib.hid rfl⟩
    rw [HV.out]
    obtain ⟨ad, x, rfl, hadb, hcx0, hxk, _⟩ := hx.at_ hkn
    have hadm : ad.block ≠ m := HA.out ad.block rfl
    have hxr := HC.out x (List.mem_of_getElem? hxk.out)
    obtain ⟨hx1, hx50⟩ := hxr
    have HXk : Hid (nth cs k = x) := Lib.hid (nth_some hxk.out)
    obtain ⟨s, HSk⟩ : ∃ s, Hid (nth st k = s) := ⟨_, Lib.hid rfl⟩
    have hsr : 0 ≤ s ∧ s ≤ 300 := by rw [← HSk.out]; exact HS.out _ (nth_mem (by omega))
    obtain ⟨hs0, hs300⟩ := hsr
    have HGS : Hid (stepG (gmin (cs.drop (k + 1)) (st.drop (k + 1))) x a (roundsG s x a) = v) := Lib.hid (by rw [← HV.out, HG.out, HXk.out, HSk.out])
    have HRL := Lib.hid (fun j : Nat => rounds_lt (s := s) (c := x) (a := (a : Int)) hs0 hx1 (by omega) j)
    have HGB : Hid (∀ r : Int, 0 ≤ r → -1 ≤ gmin (cs.drop (k + 1)) (st.drop (k + 1)) r ∧ gmin (cs.drop (k + 1)) (st.drop (k + 1)) r ≤ r) := Lib.hid (fun r hr => gmin_le (fun y hy => (HC.out y (List.mem_of_mem_drop hy)).1) (fun y hy => (HS.out y (List.mem_of_mem_drop hy)).1) (by rw [List.length_drop, List.length_drop, HLC.out, HLS.out]) hr)
    obtain ⟨W0, hW0⟩ : ∃ W0 : World, w.alloc (.cells #[.int .i64 (k : Int), .int .i64 (a : Int)] 95) = W0 := ⟨_, rfl⟩
    have hgr0 : w.grownBy W0 (some m) := by rw [← hW0]; exact World.grownBy_alloc w _ _
    have hS : Bk W0 w.heap.size 95 #[.int .i64 (k : Int), .int .i64 (a : Int)] := by rw [← hW0]; exact Bk.new w _ _
    have kg0 : Bk W0 g 84 (tillCells (some ad) n c m st) := by rw [← hW0]; exact kg.alloc _
    have hms0 : Ms W0 m N f := by rw [← hW0]; exact hms.alloc _
    have hsz0 : w.heap.size < W0.heap.size := by rw [← hW0]; simp
    have hcx1 : W0.cell? (ad.add k) = some (.int .i64 x) := by rw [← hW0]; exact (World.cell?_alloc_lt w _ _ (by rw [addr_block]; exact hadb)).trans hcx0
    have hx0' : Ri W0 W0.heap.size (some ad) n cs := by rw [← hW0]; exact (hx.alloc (Nat.le_refl _) _).more (by simp)
    have k0 : W0.cell? ⟨g, 0, none⟩ = some (.slice (some ad) n c) := kg0.cell 0
    have k1 : W0.cell? ⟨g, 1, none⟩ = some (.map (some m)) := kg0.cell 1
    have k2 : W0.cell? ⟨g, 2 + k, none⟩ = some (.int .i64 s) := by rw [till_stock kg0 hk5, HSk.out]
    have s0 : W0.cell? ⟨w.heap.size, 0, none⟩ = some (.int .i64 (k : Int)) := hS.cell 0
    have s1 : W0.cell? ⟨w.heap.size, 1, none⟩ = some (.int .i64 (a : Int)) := hS.cell 1
    have hkne : ((k : Int) == (n : Int)) = false := by simp; omega
    have hin : in64 ((k : Int), (a : Int)) := in64_of (by dsimp only; omega) (by dsimp only; omega)
    obtain ⟨ok, z, HOK, HZ⟩ : ∃ (ok : Bool) (z : Int), Hid (f ((k : Int), (a : Int)) = if ok then some z else none) ∧ Hid (ok = false → z = 0) := by
      cases h : f ((k : Int), (a : Int)) with
      | none => exact ⟨false, 0, Lib.hid rfl, Lib.hid fun _ => rfl⟩
      | some v => exact ⟨true, v, Lib.hid rfl, Lib.hid fun h => by cases h⟩
    have hlk : ∀ q, (Instr.lookup 80 (.map (some m)) (.agg #[.int .i64 (k : Int), .int .i64 (a : Int)]) true).run Try.prog (W0.drewN q) = .ok (.tuple #[.int .i64 z, .bool ok]) (W0.drewN q) := fun q => (hms0.drewN q).run_look hin z ok HOK HZ
    cases ok
    · have HNONE : Hid (f ((k : Int), (a : Int)) = none) := Lib.hid (by rw [HOK.out]; rfl)
      go_enter Try.func83, Try.ntmps83
      go_wp2
      clear hW0
      go_quiet (fail)
      go_wp2
      go_quiet (fail)
      go_wp2
      go_quiet (fail)
      go_wp2
      obtain ⟨R, HR⟩ : ∃ R, Hid (roundsG s x a = R) := ⟨_, Lib.hid rfl⟩
      have HRR : Hid (∀ j : Nat, j < R ↔ (j : Int) ≤ s ∧ (j : Int) * x ≤ a) := Lib.hid (fun j => by rw [← HR.out]; exact HRL.out j)
      have HSB : Hid (∀ j : Nat, j ≤ R → -1 ≤ stepG (gmin (cs.drop (k + 1)) (st.drop (k + 1))) x a j ∧ stepG (gmin (cs.drop (k + 1)) (st.drop (k + 1))) x a j ≤ a) := Lib.hid (fun j hj => stepG_le hx1 (fun i hi => (HGB.out _ (by have := (HRR.out i).1 (by omega); omega)).2) (fun i hi => ((HRR.out i).1 (by omega)).2) (by omega))
      rw [HR.out] at HGS
      have hw0 : IntKind.i64.wrap (s + 1) = s + 1 := IntWalk.i64_in _ (by omega)
      go_loopw [7, 43] (fun ov i wr => ∃ (j N2 : Nat) (f2 : Int × Int → Option Int) (o : Int), j ≤ R ∧ i = .int .i64 (j : Int) ∧ ov = .int .i64 o ∧ Ms wr m N2 f2 ∧ Hid (Memo cs st f2) ∧ Hid (N2 + room f2 ≤ 2000) ∧ W0.grownBy wr (some m) ∧ Hid (∀ p : Int × Int, p.1 < ((k + 1 : Nat) : Int) → f2 p = f p) ∧ Hid (stepG (gmin (cs.drop (k + 1)) (st.drop (k + 1))) x a j = o)) (fun _ i _ => 400 - (intOf i).toNat)
      case atStart => exact ⟨0, N, f, -1, Nat.zero_le _, rfl, rfl, ((hms0.drewN _).drewN _).drewN _, HM, HN, (((grown_drewN _ _).trans (grown_drewN _ _)).trans (grown_drewN _ _)).but _, Lib.hid (fun _ _ => rfl), Lib.hid rfl⟩
      case round =>
        obtain ⟨j, N2, f2, o, hj, rfl, rfl, hms2, HM2, HN2, hgw, HSAME, HST⟩ := hrel
        have hob := HSB.out j hj
        rw [HST.out] at hob
        obtain ⟨ho0, ho1⟩ := hob
        by_cases hlt : j < R
        · have hin2 := (HRR.out j).1 hlt
          obtain ⟨hjs, hjx⟩ := hin2
          have hj300 : (j : Int) ≤ 300 := by omega
          have hjx0 : 0 ≤ (j : Int) * x := Int.mul_nonneg (by omega) (by omega)
          have hjs1 : (j : Int) < s + 1 := by omega
          obtain ⟨p, HPP⟩ : ∃ p, Hid ((j : Int) * x = p) := ⟨_, Lib.hid rfl⟩
          have hpx : (j : Int) * x = p := HPP.out
          rw [hpx] at hjx hjx0
          have hwp : IntKind.i64.wrap p = p := IntWalk.i64_in _ (by omega)
          obtain ⟨r, HRE⟩ : ∃ r : Nat, Hid ((a : Int) - p = r) := ⟨((a : Int) - p).toNat, Lib.hid (by omega)⟩
          have hre : (a : Int) - p = r := HRE.out
          have hr300 : r ≤ 300 := by omega
          have hwr : IntKind.i64.wrap (r : Int) = r := IntWalk.i64_in _ (by omega)
          have hwk : IntKind.i64.wrap ((k : Int) + 1) = (k : Int) + 1 := IntWalk.i64_in _ (by omega)
          have c0 : wr.cell? ⟨g, 0, none⟩ = some (.slice (some ad) n c) := hgw.cell k0 (fun e => hgm (by simpa using e))
          have c1 : wr.cell? ⟨g, 1, none⟩ = some (.map (some m)) := hgw.cell k1 (fun e => hgm (by simpa using e))
          have hsm : w.heap.size ≠ m := by omega
          have c2 : wr.cell? ⟨w.heap.size, 0, none⟩ = some (.int .i64 (k : Int)) := hgw.cell s0 (fun e => hsm (by simpa using e))
          have c3 : wr.cell? ⟨w.heap.size, 1, none⟩ = some (.int .i64 (a : Int)) := hgw.cell s1 (fun e => hsm (by simpa using e))
          have cx : wr.cell? (ad.add k) = some (.int .i64 x) := hgw.cell hcx1 (fun e => hadm (by rw [addr_block] at e; simpa using e))
          obtain ⟨y, HY⟩ : ∃ y, Hid (gmin (cs.drop (k + 1)) (st.drop (k + 1)) (r : Int) = y) := ⟨_, Lib.hid rfl⟩
          have hyb := HGB.out (r : Int) (by omega)
          rw [HY.out] at hyb
          obtain ⟨hy0, hy1⟩ := hyb
          have HSTEP : Hid (stepG (gmin (cs.drop (k + 1)) (st.drop (k + 1))) x a (j + 1) = if 0 ≤ y ∧ (o < 0 ∨ y + j < o) then y + j else o) := Lib.hid (by
            rw [stepG, HPP.out, HRE.out, HY.out, HST.out])
          go_wp2
          go_quiet (fail)
          go_wp2_with fail
          have hxw : Ri (wr.drewN nq) (wr.drewN nq).heap.size (some ad) n cs := by
            refine Ri.more (B := W0.heap.size) ?_ hgw.size
            exact ⟨hx0'.1, fun hn0 => let ⟨ad', e1, e2, e3⟩ := hx0'.2 hn0; ⟨ad', e1, e2, fun i hi => hgw.cell (e3 i hi) (fun e => by cases e1; rw [addr_block] at e; exact hadm (by simpa using e))⟩⟩
          have htw : Till (wr.drewN nq) g m N2 (some ad) n c st f2 := ⟨(show Bk wr g 84 (tillCells (some ad) n c m st) from kg0.grown hgw (fun e => hgm (by simpa using e))), hms2, hgm⟩
          refine (show Calls Try.prog 83 #[.pointer (some ⟨g, 0, none⟩), .agg #[.int .i64 ((k : Int) + 1), .int .i64 (r : Int)]] (wr.drewN nq) _ from IH.out r N2 f2 (wr.drewN nq) hr300 htw hxw HA HM2 HN2).mono ?_
          rintro e W4 ⟨rfl, N3, f3, hms3, HM3, HN3, hgr3, HSM4⟩
          rw [HY.out]
          have HSAME3 : Hid (∀ p : Int × Int, p.1 < ((k + 1 : Nat) : Int) → f3 p = f p) := Lib.hid (fun p hp => (HSM4.out p hp).trans (HSAME.out p hp))
          by_cases hyn : y < 0
          · have HE : Hid ((if 0 ≤ y ∧ (o < 0 ∨ y + j < o) then y + j else o) = o) := Lib.hid (if_neg (by omega))
            have hd1 : decide (0 ≤ y) = false := decide_eq_false (by omega)
            go_wp2
            go_roundw
            case rel => exact ⟨j + 1, N3, f3, o, by omega, by go_num, rfl, hms3, HM3, HN3, ((hgw.trans ((grown_drewN _ _).but _)).trans hgr3), HSAME3, Lib.hid (HSTEP.out.trans HE.out)⟩
            case measure => simp [intOf]; omega
          · by_cases hon : o < 0
            · have HE : Hid ((if 0 ≤ y ∧ (o < 0 ∨ y + j < o) then y + j else o) = y + j) := Lib.hid (if_pos ⟨by omega, .inl hon⟩)
              have hd1 : decide (0 ≤ y) = true := decide_eq_true (by omega)
              have hwy : IntKind.i64.wrap (y + (j : Int)) = y + (j : Int) := IntWalk.i64_in _ (by omega)
              go_wp2
              go_roundw
              case rel => exact ⟨j + 1, N3, f3, y + j, by omega, by go_num, rfl, hms3, HM3, HN3, ((hgw.trans ((grown_drewN _ _).but _)).trans hgr3), HSAME3, Lib.hid (HSTEP.out.trans HE.out)⟩
              case measure => simp [intOf]; omega
            · by_cases hyo : y + (j : Int) < o
              · have HE : Hid ((if 0 ≤ y ∧ (o < 0 ∨ y + j < o) then y + j else o) = y + j) := Lib.hid (if_pos ⟨by omega, .inr hyo⟩)
                have hd1 : decide (0 ≤ y) = true := decide_eq_true (by omega)
                have hwy : IntKind.i64.wrap (y + (j : Int)) = y + (j : Int) := IntWalk.i64_in _ (by omega)
                go_wp2
                go_roundw
                case rel => exact ⟨j + 1, N3, f3, y + j, by omega, by go_num, rfl, hms3, HM3, HN3, ((hgw.trans ((grown_drewN _ _).but _)).trans hgr3), HSAME3, Lib.hid (HSTEP.out.trans HE.out)⟩
                case measure => simp [intOf]; omega
              · have HE : Hid ((if 0 ≤ y ∧ (o < 0 ∨ y + j < o) then y + j else o) = o) := Lib.hid (if_neg (by omega))
                have hd1 : decide (0 ≤ y) = true := decide_eq_true (by omega)
                have hwy : IntKind.i64.wrap (y + (j : Int)) = y + (j : Int) := IntWalk.i64_in _ (by omega)
                go_wp2
                go_roundw
                case rel => exact ⟨j + 1, N3, f3, o, by omega, by go_num, rfl, hms3, HM3, HN3, ((hgw.trans ((grown_drewN _ _).but _)).trans hgr3), HSAME3, Lib.hid (HSTEP.out.trans HE.out)⟩
                case measure => simp [intOf]; omega
        · have HJR : Hid (j = R) := Lib.hid (by omega)
          have hnot : ¬ ((j : Int) ≤ s ∧ (j : Int) * x ≤ a) := fun h => hlt ((HRR.out j).2 h)
          clear hlk
          have c0 : wr.cell? ⟨g, 0, none⟩ = some (.slice (some ad) n c) := hgw.cell k0 (fun e => hgm (by simpa using e))
          have c1 : wr.cell? ⟨g, 1, none⟩ = some (.map (some m)) := hgw.cell k1 (fun e => hgm (by simpa using e))
          have hsm : w.heap.size ≠ m := by omega
          have c2 : wr.cell? ⟨w.heap.size, 0, none⟩ = some (.int .i64 (k : Int)) := hgw.cell s0 (fun e => hsm (by simpa using e))
          have c3 : wr.cell? ⟨w.heap.size, 1, none⟩ = some (.int .i64 (a : Int)) := hgw.cell s1 (fun e => hsm (by simpa using e))
          have cx : wr.cell? (ad.add k) = some (.int .i64 x) := hgw.cell hcx1 (fun e => hadm (by rw [addr_block] at e; simpa using e))
          by_cases hjs : (j : Int) ≤ s
          · have hjx : (a : Int) < (j : Int) * x := by omega
            have hjx2 : (j : Int) * x ≤ 300 * 50 := Int.mul_le_mul (by omega) hx50 (by omega) (by omega)
            have hjs1 : (j : Int) < s + 1 := by omega
            obtain ⟨p, HPP⟩ : ∃ p, Hid ((j : Int) * x = p) := ⟨_, Lib.hid rfl⟩
            have hpx : (j : Int) * x = p := HPP.out
            rw [hpx] at hjx hjx2
            have hwp : IntKind.i64.wrap p = p := IntWalk.i64_in _ (by omega)
            have hwr : IntKind.i64.wrap ((a : Int) - p) = (a : Int) - p := IntWalk.i64_in _ (by omega)
            have hrn : (a : Int) - p < 0 := by omega
            clear hnot hjs
            have HOV : Hid (o = v) := Lib.hid (by rw [← HST.out, ← HGS.out, HJR.out])
            have hwo : (Lit.int .i64 o).wf = true := WalkArith.wf_i64 (by omega)
            have HN3 : Hid (N2 + 1 + room (upd f2 ((k : Int), (a : Int)) o) ≤ 2000) := Lib.hid (by
              have h1 := room_put hk5 ha (f := f2) (by rw [HSAME.out _ (by dsimp only; omega)]; exact HNONE.out) o
              have h2 := HN2.out
              show N2 + 1 + room (fun q => if q = ((k : Int), (a : Int)) then some o else f2 q) ≤ 2000
              omega)
            have HM3 : Hid (Memo cs st (upd f2 ((k : Int), (a : Int)) o)) := Lib.hid (by
              have h := memo_put (k := k) (a := a) HM2.out
              rw [HV.out, ← HOV.out] at h
              exact h)
            have HSM3 : Hid (∀ p : Int × Int, p.1 < (k : Int) → upd f2 ((k : Int), (a : Int)) o p = f p) := Lib.hid (fun p hp => by
              unfold upd
              rw [if_neg (fun e => by rw [e] at hp; exact absurd hp (by simp)), HSAME.out p (by omega)])
            have hn20 : N2 < 1048576 := by have := HN2.out; omega
            go_wp2
            go_quiet (fail)
            go_wp2
            refine wp_region_still_tail 6 (by kernel_rfl) (by kernel_rfl) ?_
            simp only [List.take_succ_cons, List.take_zero, List.drop_succ_cons, List.drop_zero]
            change wpStill _ _ (wr.drewN nq).drew _ _ _
            have d1 : (wr.drewN nq).drew.cell? ⟨g, 1, none⟩ = some (.map (some m)) := c1
            have d2 : (wr.drewN nq).drew.cell? ⟨w.heap.size, 0, none⟩ = some (.int .i64 (k : Int)) := c2
            have d3 : (wr.drewN nq).drew.cell? ⟨w.heap.size, 1, none⟩ = some (.int .i64 (a : Int)) := c3
            iterate 6 still_step
            refine wpStill_nil ?_
            refine Ms.store_op rfl _ _ _ rfl ((k : Int), (a : Int)) o rfl (w := (wr.drewN nq).drew) hms2 hn20 hin hwo rfl rfl ?_
            intro w5 hms5 hgr5
            go_wp2
            go_ret
            exact ⟨ret_i HOV.out, _, _, hms5, HM3, HN3, (hgr0.trans hgw).trans ((((grown_drewN wr _).trans (grown_drew _)).but _).trans hgr5), HSM3⟩
          · have hjs1 : s + 1 ≤ (j : Int) := by omega
            clear hnot hjs
            have HOV : Hid (o = v) := Lib.hid (by rw [← HST.out, ← HGS.out, HJR.out])
            have hwo : (Lit.int .i64 o).wf = true := WalkArith.wf_i64 (by omega)
            have HN3 : Hid (N2 + 1 + room (upd f2 ((k : Int), (a : Int)) o) ≤ 2000) := Lib.hid (by
              have h1 := room_put hk5 ha (f := f2) (by rw [HSAME.out _ (by dsimp only; omega)]; exact HNONE.out) o
              have h2 := HN2.out
              show N2 + 1 + room (fun q => if q = ((k : Int), (a : Int)) then some o else f2 q) ≤ 2000
              omega)
            have HM3 : Hid (Memo cs st (upd f2 ((k : Int), (a : Int)) o)) := Lib.hid (by
              have h := memo_put (k := k) (a := a) HM2.out
              rw [HV.out, ← HOV.out] at h
              exact h)
            have HSM3 : Hid (∀ p : Int × Int, p.1 < (k : Int) → upd f2 ((k : Int), (a : Int)) o p = f p) := Lib.hid (fun p hp => by
              unfold upd
              rw [if_neg (fun e => by rw [e] at hp; exact absurd hp (by simp)), HSAME.out p (by omega)])
            have hn20 : N2 < 1048576 := by have := HN2.out; omega
            go_wp2
            refine wp_region_still_tail 6 (by kernel_rfl) (by kernel_rfl) ?_
            simp only [List.take_succ_cons, List.take_zero, List.drop_succ_cons, List.drop_zero]
            change wpStill _ _ wr.drew _ _ _
            have d1 : wr.drew.cell? ⟨g, 1, none⟩ = some (.map (some m)) := c1
            have d2 : wr.drew.cell? ⟨w.heap.size, 0, none⟩ = some (.int .i64 (k : Int)) := c2
            have d3 : wr.drew.cell? ⟨w.heap.size, 1, none⟩ = some (.int .i64 (a : Int)) := c3
            iterate 6 still_step
            refine wpStill_nil ?_
            refine Ms.store_op rfl _ _ _ rfl ((k : Int), (a : Int)) o rfl (w := wr.drew) hms2 hn20 hin hwo rfl rfl ?_
            intro w5 hms5 hgr5
            go_wp2
            go_ret
            exact ⟨ret_i HOV.out, _, _, hms5, HM3, HN3, (hgr0.trans hgw).trans (((grown_drew wr).but _).trans hgr5), HSM3⟩
    · have HVZ : Hid (z = v) := Lib.hid (by rw [← HV.out]; exact HM.out k a z (by rw [HOK.out]; rfl))
      go_enter Try.func83, Try.ntmps83
      go_wp2
      clear hW0
      go_quiet (fail)
      go_wp2
      go_quiet (fail)
      go_wp2
      go_ret
      exact ⟨ret_i HVZ.out, N, f, (hms0.drewN _).drewN _, HM, HN, hgr0.trans (((grown_drewN _ _).trans (grown_drewN _ _)).but _), Lib.hid fun _ _ => rfl⟩
end Go.Proofs.Ytloibnmhgocboaa
