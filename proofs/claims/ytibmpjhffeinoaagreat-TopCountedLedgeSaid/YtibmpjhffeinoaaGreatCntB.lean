/-
  TopCountedLedge: the coppers are dropped, the ledge answers; then the run.
-/
import Derived.Test.YtibmpjhffeinoaaGreatCntA
import Derived.Test.YtibmpjhffeinoaaGreatY6
import Derived.Test.YtibmpjhffeinoaaGreatGd
import Derived.Test.YtibmpjhffeinoaaGreatGe
namespace Go.Proofs.YtibmpjhffeinoaaGreat.Kx
open Go Go.RowKit

section
variable {P : Program} {w : World} {a : Act}
theorem put_ne {s t : Nat} (v : Value) (hne : t ≠ s) : (a.put (some t) v).tmps[s]? = a.tmps[s]? := by
  show (a.tmps.setIfInBounds t v)[s]? = _
  rw [Array.getElem?_setIfInBounds, if_neg hne]
theorem put_eq {t : Nat} (v : Value) (ht : t < a.tmps.size) : (a.put (some t) v).tmps[t]? = some v := by
  show (a.tmps.setIfInBounds t v)[t]? = _
  rw [Array.getElem?_setIfInBounds, if_pos rfl, if_pos ht]
theorem put_sz (t : Nat) (v : Value) : (a.put (some t) v).tmps.size = a.tmps.size := Array.size_setIfInBounds
theorem eval_t {t : Nat} {v : Value} (h : a.tmps[t]? = some v) : a.eval (.tmp t) = v := by
  show a.tmps.getD t undef = v
  rw [Array.getD_eq_getD_getElem?, h]
  rfl
def tsOf : Op → Array TypeId
  | .call c => c.argTypes
  | _ => #[]
/-- A call by its contract. -/
theorem call_wp {o : Oper} {g : FuncId} {xs : Array Operand} {ts : Array TypeId} {us : Array Value} {m : Nat} {Q : Exit → Act → World → Prop} {next : Act → World → Prop} {Rr : Ending → World → Prop} (hop : o.op = .call ⟨.value (.func g), xs, ts⟩) (hus : xs.map a.eval = us)
    (hrun : ∀ (u : Array Value) (w : World), (callFunc g u).run P w = .ok (.enter g u) w) (hc : Calls P g us w Rr) (hret : ∀ e w', Rr e w' → ∃ v, e = .returned v ∧ next (a.put o.dst v) w') : Oper.wpIn (Fro none) m P o a w next Q := by
  obtain ⟨dst, op, ty, pos, after, guard⟩ := o
  simp only at hop
  subst hop
  refine ⟨fun _ _ => trivial, ?_⟩
  have hfv : a.eval (.func g) = .func (.func g) #[] #[] := rfl
  have hr : ((Oper.mk dst (.call ⟨.value (.func g), xs, ts⟩) ty pos after guard).semAt (Fro none).round a.eval).run P w = .ok (.enter g us) w := by
    rw [Oper.semAt_eq _ _ _ (by intro c; simp)]
    show ((resolve a.eval ⟨.value (.func g), xs, ts⟩ ty) >>= fun d => invoke d.target d.args).run P w = _
    rw [Sem.run_bind, resolve_value hfv]
    have := hrun (#[] ++ xs.map a.eval ++ #[]) w
    rw [hus] at this
    simpa [Result.andThen, invoke, hus] using this
  rw [hr]
  refine ⟨(fun hd => by cases hd), ?_⟩
  have hc' : CallsIn (Fro none) (m - 1) P g us w Rr := callsIn_wide.2 hc
  exact hc'.mono fun e w' hb => by
    obtain ⟨v, rfl, hn⟩ := hret e w' hb
    exact hn
theorem move_wp {o : Oper} {x : Operand} {v : Value} {m : Nat} {Q : Exit → Act → World → Prop} {next : Act → World → Prop} (hop : o.op = .move x ∨ o.op = .assign x) (hx : a.eval x = v) (hk : next (a.put o.dst v) w) : Oper.wpIn (Fro none) m P o a w next Q := by
  refine oper_run (w' := w) (v := v) ?_ ?_ hk
  · rcases hop with h | h <;> (rw [h]; intro c; simp)
  · unfold execOp
    rcases hop with h | h <;> (rw [h]; simp only [hx]; rfl)
theorem extract_wp {o : Oper} {x : Operand} {vs : Array Value} {j : Nat} {v : Value} {m : Nat} {Q : Exit → Act → World → Prop} {next : Act → World → Prop} (hop : o.op = .extract x j) (hx : a.eval x = .tuple vs) (hj : vs[j]? = some v) (hk : next (a.put o.dst v) w) : Oper.wpIn (Fro none) m P o a w next Q := by
  refine oper_run (w' := w) (v := v) (by rw [hop]; intro c; simp) ?_ hk
  unfold execOp
  rw [hop]
  simp [hx, Instr.extract, hj]
end
noncomputable section
variable [Val] [Bet] {φ : Phi} {w w0 : World} {fr : AF} {a : Act}
theorem InSt.start0 (hb : Below w0.heap.size w0 w) (hF : FR phi0 fr a.tmps) (hd : a.defers = []) : InSt w0 fr noH a w :=
  ⟨phi0, R.noH w, ⟨⟨.refl _, Nat.le_refl _, hb.size, fun k hk _ => hb.block k hk, fun _ _ _ _ hi => absurd hi (noH_get _ _), hb.os, hb.tape, hb.output⟩, fun _ _ => rfl⟩, hF, hd⟩
def putsL (l : List (Nat × AV)) : AF → Option AF := List.rec (motive := fun _ => AF → Option AF) (fun fr => some fr) (fun p _ ih fr => putK none fr (some p.1) p.2 ih) l
omit [Bet] in
theorem FR.list {T : Array Value} : ∀ (l : List (Nat × AV)) {fr fr' : AF}, putsL l fr = some fr' → FR φ fr T → (∀ p ∈ l, ∃ v, T[p.1]? = some v ∧ VR φ p.2 v) → FR φ fr' T
  | [], fr, fr', h, hF, _ => by cases h; exact hF
  | p :: l, fr, fr', h, hF, hl => by
    obtain ⟨v, h1, h2⟩ := hl p List.mem_cons_self
    obtain ⟨_, fr1, h3, h4, _⟩ := putK_there (k := putsL l) h hF h1 h2
    exact FR.list l h3 h4 fun q hq => hl q (List.mem_cons_of_mem _ hq)
end

noncomputable section
def cpF0 : AF := ⟨203, (.n (.n (.n (.n (.n (.n (.n (.n (.l (.lin .u8 0 [(0, 0, 0), (0, 0, 0), (0, 0, 19), (0, 0, 12), (8, 0, 31), (1, 0, 7)])) .e) .e) .e) .e) .e) .e) (.n (.n (.n (.n (.n (.n (.l (.lin .u8 0 [(0, 0, 0), (0, 0, 0), (1, 0, 19), (20, 0, 12)])) .e) .e) .e) .e) .e) .e)) (.n (.n (.n (.n (.n (.n (.n (.l (.exS 1 0 [(0, 0, 0), (0, 0, 0), (0, 0, 19), (0, 0, 12), (0, 0, 31), (0, 0, 7), (1, 0, 30)])) .e) .e) .e) .e) .e) .e) .e))⟩
def cpF1 : AF := ⟨203, (.n (.n .e (.n (.n (.n (.n (.n (.n (.l (.lin .u8 0 [(0, 0, 0), (0, 0, 0), (1, 0, 19), (20, 0, 12)])) .e) .e) .e) .e) .e) .e)) (.n (.n (.n (.n (.n (.n (.n (.l (.exS 1 0 [(0, 0, 0), (0, 0, 0), (0, 0, 19), (0, 0, 12), (0, 0, 31), (0, 0, 7), (1, 0, 30)])) .e) .e) .e) .e) .e) .e) (.n .e (.n (.n (.n (.n (.n (.l (.lin .i64 1 [(0, 0, 0), (0, 0, 0), (0, 0, 19), (0, 0, 12), (0, 0, 31), (1, 0, 7)])) .e) .e) .e) .e) .e))))⟩
theorem cp_run : runL exe0 100000 (takeL 3 c8) cpF0 noH (leS cpF1 ⟨1000, .e⟩) = true := by decide +kernel
theorem cp_c : c8 = chain (takeL 3 c8) (dropSeq 3 c8) := by kernel_rfl
theorem cp_many : isVal (run (exeY [37] []) 1000 (.call (.func 8) [.any, .exS 1 0 [(1, 31, 9223372036854775807)], .any] noH)) isTrue = true := by decide +kernel
def ops4 : Array Oper := opsOf (dropSeq 3 c8)
def ops5 : Array Oper := opsOf (dropSeq 4 c8)
theorem cp_4 : dropSeq 3 c8 = .seq (.region 4 ops4 false) (dropSeq 4 c8) := by kernel_rfl
theorem cp_5 : dropSeq 4 c8 = .seq (.region 5 ops5 false) (dropSeq 5 c8) := by kernel_rfl
def op4 (i : Nat) : Oper := (ops4[i]?).getD default
def op5 (i : Nat) : Oper := (ops5[i]?).getD default
theorem o4_0 : ops4[0]? = some (op4 0) := by kernel_rfl
theorem o4_1 : ops4[1]? = some (op4 1) := by kernel_rfl
theorem o4_2 : ops4[2]? = some (op4 2) := by kernel_rfl
theorem o4_3 : ops4[3]? = some (op4 3) := by kernel_rfl
theorem o5_0 : ops5[0]? = some (op5 0) := by kernel_rfl
theorem o5_1 : ops5[1]? = some (op5 1) := by kernel_rfl
theorem o5_2 : ops5[2]? = some (op5 2) := by kernel_rfl
theorem o5_3 : ops5[3]? = some (op5 3) := by kernel_rfl
theorem o5_4 : ops5[4]? = some (op5 4) := by kernel_rfl
theorem o5_5 : ops5[5]? = some (op5 5) := by kernel_rfl
theorem o5_6 : ops5[6]? = some (op5 6) := by kernel_rfl
theorem o5_7 : ops5[7]? = some (op5 7) := by kernel_rfl
theorem o5_8 : ops5[8]? = some (op5 8) := by kernel_rfl
theorem o5_9 : ops5[9]? = some (op5 9) := by kernel_rfl
def cl0 : List (Nat × AV) := [(2, .lin .u8 0 [(0, 0, 0), (0, 0, 0), (1, 0, 19), (20, 0, 12)]), (8, .exS 2 0 [(1, 0, 0), (1, 0, 0)]), (9, .exS 3 0 [(1, 0, 0)]), (10, .lin .i64 0 [(0, 0, 0), (1, 0, 0)]), (11, .int .i64 0)]
theorem cl0_f : putsL cl0 ⟨203, .e⟩ = some cf0 := by kernel_rfl
def cl1 : List (Nat × AV) := [(2, .lin .u8 0 [(0, 0, 0), (0, 1, 12), (1, 0, 19), (20, 0, 12)]), (8, .exS 2 0 [(1, 0, 0), (1, 1, 12)]), (9, .exS 3 0 [(1, 0, 0)]), (10, .lin .i64 0 [(0, 0, 0), (1, 1, 12)]), (11, .int .i64 0)]
theorem cl1_f : putsL cl1 ⟨203, .e⟩ = some cf1 := by kernel_rfl
def cl2 : List (Nat × AV) := [(2, .lin .u8 0 [(0, 1, 8), (0, 0, 0), (1, 0, 19), (20, 0, 12)]), (8, .exS 2 0 [(1, 1, 8), (1, 0, 0)]), (9, .exS 3 0 [(1, 1, 8)]), (10, .lin .i64 0 [(0, 1, 8), (1, 0, 0)]), (11, .int .i64 0)]
theorem cl2_f : putsL cl2 ⟨203, .e⟩ = some cf2 := by kernel_rfl
def cl3 : List (Nat × AV) := [(2, .lin .u8 0 [(0, 1, 8), (0, 1, 12), (1, 0, 19), (20, 0, 12)]), (8, .exS 2 0 [(1, 1, 8), (1, 1, 12)]), (9, .exS 3 0 [(1, 1, 8)]), (10, .lin .i64 0 [(0, 1, 8), (1, 1, 12)]), (11, .int .i64 0)]
theorem cl3_f : putsL cl3 ⟨203, .e⟩ = some cf3 := by kernel_rfl

/-- Behind the ledge's answer. -/
theorem cnt_end {cf : AF} {ms : List ME} [Val] [Bet] (hms : ∀ e ∈ ms, MemoOK Tryz.prog e) (hr : runL (exeY [37] ms) 100000 (takeL 14 (dropSeq 5 c8)) cf noH (leS endF endH) = true) {W w : World} {a : Act} {m : Nat} (hi : InSt W cf noH a w) :
    (dropSeq 5 c8).wpIn (Fro none) m Tryz.prog (FinQ 6 W) a w := by
  rw [cr_c]
  refine seg_list (exeY_sound (fun f hf => by
    simp only [List.mem_cons, List.not_mem_nil, or_false] at hf
    subst hf
    exact yes37) hms 100000) _ _ _ _ _ hr hi fun a' w' h' => ?_
  rw [cr_e]
  exact wpIn_ret (h'.fin (by rfl) (.inr rfl))
theorem run38 (u : Array Value) (w : World) : (callFunc 39 u).run Tryz.prog w = .ok (.enter 39 u) w := callFunc_run Tryz.func39 (by rfl : Tryz.f39.body = some (codeOf Tryz.f39)) (by kernel_rfl) u w
theorem run23 (u : Array Value) (w : World) : (callFunc 23 u).run Tryz.prog w = .ok (.enter 23 u) w := callFunc_run Tryz.func23 (by rfl : Tryz.f23.body = some (codeOf Tryz.f23)) (by kernel_rfl) u w
theorem cnt_class {W w : World} {a : Act} {m : Nat} {x2 : Int} {A2 A3 : Option Addr} {n2 c2 n3 c3 : Nat} {f : Int} (h2 : 0 ≤ x2 ∧ x2 ≤ 255) (hb : Below W.heap.size W w) (hd : a.defers = []) (hz : a.tmps.size = 203) (q2 : a.tmps[2]? = some (.int .u8 x2))
    (q8 : a.tmps[8]? = some (.slice A2 n2 c2)) (q9 : a.tmps[9]? = some (.slice A3 n3 c3)) (q10 : a.tmps[10]? = some (.int .i64 f)) (q11 : a.tmps[11]? = some (.int .i64 0)) (hf : 0 ≤ f) (hsum : (n2 : Int) = n3 + f) (hn2 : n2 ≤ 12) (hn3 : n3 ≤ 8) :
    (dropSeq 5 c8).wpIn (Fro none) m Tryz.prog (FinQ 6 W) a w := by
  letI : Val := ⟨fun i => match i with
    | 0 => (n3 : Int)
    | 1 => f
    | 2 => x2 % 20
    | 3 => x2 / 20
    | _ => 0, fun i => match i with
    | 2 => .slice A2 n2 c2
    | 3 => .slice A3 n3 c3
    | _ => .nilFunc⟩
  letI : Bet := bet0
  have go : ∀ (U1 U2 F1 F2 : Int), U1 ≤ n3 → (n3 : Int) ≤ U2 → F1 ≤ f → f ≤ F2 →
      ∀ p ∈ ([(2, .lin .u8 0 [(0, U1, U2), (0, F1, F2), (1, 0, 19), (20, 0, 12)]), (8, .exS 2 0 [(1, U1, U2), (1, F1, F2)]), (9, .exS 3 0 [(1, U1, U2)]), (10, .lin .i64 0 [(0, U1, U2), (1, F1, F2)]), (11, .int .i64 0)] : List (Nat × AV)), ∃ v, a.tmps[p.1]? = some v ∧ VR phi0 p.2 v := by
    intro U1 U2 F1 F2 u1 u2 f1 f2 p hp
    simp only [List.mem_cons, List.not_mem_nil, or_false] at hp
    rcases hp with rfl | rfl | rfl | rfl | rfl
    · refine ⟨_, q2, .lin _ _ _ _ ?_ ⟨⟨u1, u2⟩, ⟨f1, f2⟩, ⟨?_, ?_⟩, ⟨?_, ?_⟩, trivial⟩⟩
      · show x2 = 0 + (0 * (n3 : Int) + (0 * f + (1 * (x2 % 20) + (20 * (x2 / 20) + 0))))
        omega
      · show 0 ≤ x2 % 20
        omega
      · show x2 % 20 ≤ 19
        omega
      · show 0 ≤ x2 / 20
        omega
      · show x2 / 20 ≤ 12
        omega
    · refine ⟨_, q8, .exS _ _ _ _ _ _ rfl ?_ ⟨⟨u1, u2⟩, ⟨f1, f2⟩, trivial⟩⟩
      show (n2 : Int) = 0 + (1 * (n3 : Int) + (1 * f + 0))
      omega
    · refine ⟨_, q9, .exS _ _ _ _ _ _ rfl ?_ ⟨⟨u1, u2⟩, trivial⟩⟩
      show (n3 : Int) = 0 + (1 * (n3 : Int) + 0)
      omega
    · refine ⟨_, q10, .lin _ _ _ _ ?_ ⟨⟨u1, u2⟩, ⟨f1, f2⟩, trivial⟩⟩
      show f = 0 + (0 * (n3 : Int) + (1 * f + 0))
      omega
    · exact ⟨_, q11, .int _ _⟩
  have hF0 : FR phi0 ⟨203, .e⟩ a.tmps := ⟨hz, fun t x hx => by simp [Tr.get] at hx⟩
  by_cases hu : n3 = 0
  · by_cases hf0 : f = 0
    · exact cnt_end mos8_0 cr0 (.start0 hb (FR.list _ cl0_f hF0 (go 0 0 0 0 (by omega) (by omega) (by omega) (by omega))) hd)
    · exact cnt_end mos8_1 cr1 (.start0 hb (FR.list _ cl1_f hF0 (go 0 0 1 12 (by omega) (by omega) (by omega) (by omega))) hd)
  · by_cases hf0 : f = 0
    · exact cnt_end mos8_2 cr2 (.start0 hb (FR.list _ cl2_f hF0 (go 1 8 0 0 (by omega) (by omega) (by omega) (by omega))) hd)
    · exact cnt_end mos8_3 cr3 (.start0 hb (FR.list _ cl3_f hF0 (go 1 8 1 12 (by omega) (by omega) (by omega) (by omega))) hd)
/-- What is known of temporaries. -/
def Kn (a : Act) (l : List (Nat × Value)) : Prop := a.tmps.size = 203 ∧ a.defers = [] ∧ ∀ p ∈ l, a.tmps[p.1]? = some p.2
theorem Kn.put {a : Act} {l : List (Nat × Value)} (h : Kn a l) (t : Nat) (v : Value) (ht : t < 203) (hn : ∀ p ∈ l, t ≠ p.1) : Kn (a.put (some t) v) ((t, v) :: l) := by
  refine ⟨(put_sz t v).trans h.1, h.2.1, fun p hp => ?_⟩
  rcases List.mem_cons.1 hp with rfl | hp
  · exact put_eq v (by rw [h.1]; exact ht)
  · rw [put_ne v (hn p hp)]
    exact h.2.2 p hp
theorem Kn.get {a : Act} {l : List (Nat × Value)} (h : Kn a l) {t : Nat} {v : Value} (hm : (t, v) ∈ l) : a.eval (.tmp t) = v := eval_t (h.2.2 _ hm)
theorem cnt_mid {W w : World} {a : Act} {m : Nat} {x2 : Int} {b n c : Nat} {A : Option Addr} {xs : List Int} (h2 : 0 ≤ x2 ∧ x2 ≤ 255) (hb : Below W.heap.size W w) (hx : Ru W W.heap.size A n xs) (hn : n ≤ 9223372036854775807) (hb1 : 1 ≤ b) (hb8 : b ≤ 8)
    (k : Kn a [(7, .int .i64 (b : Int)), (1, .slice A n c), (2, .int .u8 x2)]) : (dropSeq 3 c8).wpIn (Fro none) m Tryz.prog (FinQ 6 W) a w := by
  rw [cp_4]
  refine wpIn_seq (wpIn_region_of (l := [0, 1, 2, 3]) (by kernel_rfl) ?_)
  refine wpOps_cons o4_0 (by kernel_rfl) (move_wp (x := .tmp 7) (.inl (by kernel_rfl)) (k.get (t := 7) (v := .int .i64 (b : Int)) (by simp)) ?_)
  rw [show (op4 0).dst = some 34 from by kernel_rfl]
  replace k := k.put 34 (.int .i64 (b : Int)) (by omega) (by simp)
  refine wpOps_cons o4_1 (by kernel_rfl) (move_wp (x := .tmp 1) (.inl (by kernel_rfl)) (k.get (t := 1) (v := .slice A n c) (by simp)) ?_)
  rw [show (op4 1).dst = some 35 from by kernel_rfl]
  replace k := k.put 35 (.slice A n c) (by omega) (by simp)
  refine wpOps_cons o4_2 (by kernel_rfl) (call_wp (xs := #[.tmp 34, .tmp 35]) (ts := tsOf (op4 2).op) (us := #[.int .i64 (b : Int), .slice A n c]) (by kernel_rfl) (by
    simp only [List.map_toArray, List.map_cons, List.map_nil]
    rw [k.get (t := 34) (v := .int .i64 (b : Int)) (by simp), k.get (t := 35) (v := .slice A n c) (by simp)]) run38 (aDropped b A n c xs w (hx.next hb (Nat.le_refl _) hb.size) hn hb1 hb8 _ (Lib.hid rfl)) fun e w2 hr => ?_)
  obtain ⟨A2, n2, c2, rfl, ho, hb2⟩ := hr
  refine ⟨_, rfl, ?_⟩
  rw [show (op4 2).dst = some 36 from by kernel_rfl]
  replace k := k.put 36 (.slice A2 n2 c2) (by omega) (by simp)
  refine wpOps_cons o4_3 (by kernel_rfl) (move_wp (x := .tmp 36) (.inr (by kernel_rfl)) (k.get (t := 36) (v := .slice A2 n2 c2) (by simp)) ?_)
  rw [show (op4 3).dst = some 8 from by kernel_rfl]
  replace k := k.put 8 (.slice A2 n2 c2) (by omega) (by simp)
  have hb' : Below W.heap.size W w2 := hb.trans (hb2.mono hb.size)
  have hri := ho.ri
  have hlen := hri.len
  have hD : drp (b : Int) xs = drp (b : Int) xs := rfl
  have hv : Valid (b : Int) (drp (b : Int) xs) := ⟨by omega, by omega, by rw [drp_len]; omega, drp_range (by omega) xs⟩
  generalize drp (b : Int) xs = D at hri hlen hv
  show (dropSeq 4 c8).wpIn (Fro none) m Tryz.prog (FinQ 6 W) _ w2
  rw [cp_5]
  refine wpIn_seq (wpIn_region_of (l := [0, 1, 2, 3, 4, 5, 6, 7, 8, 9]) (by kernel_rfl) ?_)
  refine wpOps_cons o5_0 (by kernel_rfl) (move_wp (x := .tmp 7) (.inl (by kernel_rfl)) (k.get (t := 7) (v := .int .i64 (b : Int)) (by simp)) ?_)
  rw [show (op5 0).dst = some 38 from by kernel_rfl]
  replace k := k.put 38 (.int .i64 (b : Int)) (by omega) (by simp)
  refine wpOps_cons o5_1 (by kernel_rfl) (move_wp (x := .tmp 8) (.inl (by kernel_rfl)) (k.get (t := 8) (v := .slice A2 n2 c2) (by simp)) ?_)
  rw [show (op5 1).dst = some 39 from by kernel_rfl]
  replace k := k.put 39 (.slice A2 n2 c2) (by omega) (by simp)
  have hri2 : Ri w2 w2.heap.size A2 n2 D := hri
  refine wpOps_cons o5_2 (by kernel_rfl) (call_wp (xs := #[.tmp 38, .tmp 39]) (ts := tsOf (op5 2).op) (us := #[.int .i64 (b : Int), .slice A2 n2 c2]) (by kernel_rfl) (by
    simp only [List.map_toArray, List.map_cons, List.map_nil]
    rw [k.get (t := 38) (v := .int .i64 (b : Int)) (by simp), k.get (t := 39) (v := .slice A2 n2 c2) (by simp)]) run23 (lFull b A2 n2 c2 D w2 hri2 hv) fun e w3 hr => ?_)
  obtain ⟨A3, n3, c3, rfl, ho3, hb3⟩ := hr
  refine ⟨_, rfl, ?_⟩
  have hlen3 := ho3.ri.len
  have hb'' : Below W.heap.size W w3 := hb'.trans (hb3.mono hb'.size)
  have hf0 : 0 ≤ fellOf (b : Int) D := fellOf_nonneg D hv.all
  have hf1 : fellOf (b : Int) D = (D.length : Int) - ((fullOf (b : Int) D).length : Int) := rfl
  have hf2 : (fullOf (b : Int) D).length ≤ b := by
    have := fullIn_le (lieOf (b : Int) D) (b : Int).toNat
    unfold fullOf
    omega
  have hm := hv.many
  generalize fellOf (b : Int) D = f at *
  rw [show (op5 2).dst = some 40 from by kernel_rfl]
  replace k := k.put 40 (.tuple #[.slice A3 n3 c3, .int .i64 f, .int .i64 0]) (by omega) (by simp)
  refine wpOps_cons o5_3 (by kernel_rfl) (move_wp (x := .tmp 40) (.inl (by kernel_rfl)) (k.get (t := 40) (v := .tuple #[.slice A3 n3 c3, .int .i64 f, .int .i64 0]) (by simp)) ?_)
  rw [show (op5 3).dst = some 37 from by kernel_rfl]
  replace k := k.put 37 (.tuple #[.slice A3 n3 c3, .int .i64 f, .int .i64 0]) (by omega) (by simp)
  refine wpOps_cons o5_4 (by kernel_rfl) (extract_wp (x := .tmp 37) (j := 0) (by kernel_rfl) (k.get (t := 37) (v := .tuple #[.slice A3 n3 c3, .int .i64 f, .int .i64 0]) (by simp)) rfl ?_)
  rw [show (op5 4).dst = some 41 from by kernel_rfl]
  replace k := k.put 41 (.slice A3 n3 c3) (by omega) (by simp)
  refine wpOps_cons o5_5 (by kernel_rfl) (extract_wp (x := .tmp 37) (j := 1) (by kernel_rfl) (k.get (t := 37) (v := .tuple #[.slice A3 n3 c3, .int .i64 f, .int .i64 0]) (by simp)) rfl ?_)
  rw [show (op5 5).dst = some 42 from by kernel_rfl]
  replace k := k.put 42 (.int .i64 f) (by omega) (by simp)
  refine wpOps_cons o5_6 (by kernel_rfl) (extract_wp (x := .tmp 37) (j := 2) (by kernel_rfl) (k.get (t := 37) (v := .tuple #[.slice A3 n3 c3, .int .i64 f, .int .i64 0]) (by simp)) rfl ?_)
  rw [show (op5 6).dst = some 43 from by kernel_rfl]
  replace k := k.put 43 (.int .i64 0) (by omega) (by simp)
  refine wpOps_cons o5_7 (by kernel_rfl) (move_wp (x := .tmp 41) (.inr (by kernel_rfl)) (k.get (t := 41) (v := .slice A3 n3 c3) (by simp)) ?_)
  rw [show (op5 7).dst = some 9 from by kernel_rfl]
  replace k := k.put 9 (.slice A3 n3 c3) (by omega) (by simp)
  refine wpOps_cons o5_8 (by kernel_rfl) (move_wp (x := .tmp 42) (.inr (by kernel_rfl)) (k.get (t := 42) (v := .int .i64 f) (by simp)) ?_)
  rw [show (op5 8).dst = some 10 from by kernel_rfl]
  replace k := k.put 10 (.int .i64 f) (by omega) (by simp)
  refine wpOps_cons o5_9 (by kernel_rfl) (move_wp (x := .tmp 43) (.inr (by kernel_rfl)) (k.get (t := 43) (v := .int .i64 0) (by simp)) ?_)
  rw [show (op5 9).dst = some 11 from by kernel_rfl]
  replace k := k.put 11 (.int .i64 0) (by omega) (by simp)
  show (dropSeq 5 c8).wpIn (Fro none) m Tryz.prog (FinQ 6 W) _ w3
  refine cnt_class (f := f) (x2 := x2) (n2 := n2) (n3 := n3) (A2 := A2) (A3 := A3) (c2 := c2) (c3 := c3) h2 hb'' k.2.1 k.1 (k.2.2 (2, .int .u8 x2) (by simp)) (k.2.2 (8, .slice A2 n2 c2) (by simp)) (k.2.2 (9, .slice A3 n3 c3) (by simp)) (k.2.2 (10, .int .i64 f) (by simp)) (k.2.2 (11, .int .i64 0) (by simp)) hf0 (by omega) (by omega) (by omega)
theorem wCounted (x0 x2 : Int) (h0 : 0 ≤ x0 ∧ x0 ≤ 255) (h2 : 0 ≤ x2 ∧ x2 ≤ 255) (A : Option Addr) (n c : Nat) (xs : List Int) (W : World) (hx : Ru W W.heap.size A n xs) (hn : n ≤ 9223372036854775807) : Calls Tryz.prog 8 #[.int .u8 x0, .slice A n c, .int .u8 x2] W (Yes W) := by
  by_cases hl : n ≤ 30
  · letI : Val := ⟨fun i => match i with
      | 2 => x2 % 20
      | 3 => x2 / 20
      | 4 => x0 / 8
      | 5 => x0 % 8
      | 6 => (n : Int)
      | _ => 0, fun _ => .slice A n c⟩
    letI : Bet := bet0
    have hv : VRs phi0 [.lin .u8 0 [(0, 0, 0), (0, 0, 0), (0, 0, 19), (0, 0, 12), (8, 0, 31), (1, 0, 7)], .exS 1 0 [(0, 0, 0), (0, 0, 0), (0, 0, 19), (0, 0, 12), (0, 0, 31), (0, 0, 7), (1, 0, 30)], .lin .u8 0 [(0, 0, 0), (0, 0, 0), (1, 0, 19), (20, 0, 12)]] [.int .u8 x0, .slice A n c, .int .u8 x2] := by
      have b0 : (0 : Int) ≤ 0 ∧ (0 : Int) ≤ 0 := ⟨Int.le_refl _, Int.le_refl _⟩
      have b2 : 0 ≤ x2 % 20 ∧ x2 % 20 ≤ 19 := by omega
      have b3 : 0 ≤ x2 / 20 ∧ x2 / 20 ≤ 12 := by omega
      have b4 : 0 ≤ x0 / 8 ∧ x0 / 8 ≤ 31 := by omega
      have b5 : 0 ≤ x0 % 8 ∧ x0 % 8 ≤ 7 := by omega
      have b6 : 0 ≤ (n : Int) ∧ (n : Int) ≤ 30 := by omega
      refine .cons _ _ _ _ (.lin _ _ _ _ ?_ ⟨b0, b0, b2, b3, b4, b5, trivial⟩) (.cons _ _ _ _ (.exS _ _ _ _ _ _ rfl ?_ ⟨b0, b0, b2, b3, b4, b5, b6, trivial⟩) (.cons _ _ _ _ (.lin _ _ _ _ ?_ ⟨b0, b0, b2, b3, trivial⟩) .nil))
      · show x0 = 0 + (0 * 0 + (0 * 0 + (0 * (x2 % 20) + (0 * (x2 / 20) + (8 * (x0 / 8) + (1 * (x0 % 8) + 0))))))
        omega
      · show (n : Int) = 0 + (0 * 0 + (0 * 0 + (0 * (x2 % 20) + (0 * (x2 / 20) + (0 * (x0 / 8) + (0 * (x0 % 8) + (1 * (n : Int) + 0)))))))
        omega
      · show x2 = 0 + (0 * 0 + (0 * 0 + (1 * (x2 % 20) + (20 * (x2 / 20) + 0))))
        omega
    have key : CallsIn (Fro none) 0 Tryz.prog 8 (([.int .u8 x0, .slice A n c, .int .u8 x2] : List Value).toArray) W (Yes W) := by
      refine callsIn_fin (t := 6) (fr0 := cpF0) Tryz.func8 (c := c8) (by rfl) (by rfl) hv (by kernel_rfl) 0 W fun a hi => ?_
      rw [cp_c]
      refine seg_list (exe0_sound 100000) _ _ _ _ _ cp_run hi fun a1 w1 h1 => ?_
      have hb1 := h1.below
      obtain ⟨φ, e1, e2, e3, e4⟩ := h1
      obtain ⟨v1, q1, r1⟩ := e3.2 1 _ (by rfl)
      obtain ⟨v2, q2, r2⟩ := e3.2 2 _ (by rfl)
      obtain ⟨v7, q7, r7⟩ := e3.2 7 _ (by rfl)
      have p1 : a1.tmps[1]? = some (.slice A n c) := by
        cases r1 with
        | exS _ _ _ A' n' m' hi' _ _ =>
          rw [q1]
          exact congrArg some hi'.symm
      have p2 : a1.tmps[2]? = some (.int .u8 x2) := by
        cases r2 with
        | lin _ _ _ z hz _ =>
          have hz : z = 0 + (0 * 0 + (0 * 0 + (1 * (x2 % 20) + (20 * (x2 / 20) + 0)))) := hz
          have : z = x2 := by omega
          rw [q2, this]
      have p7 : a1.tmps[7]? = some (.int .i64 (((1 + x0 % 8).toNat : Nat) : Int)) := by
        cases r7 with
        | lin _ _ _ z hz _ =>
          have hz : z = 1 + (0 * 0 + (0 * 0 + (0 * (x2 % 20) + (0 * (x2 / 20) + (0 * (x0 / 8) + (1 * (x0 % 8) + 0)))))) := hz
          have : z = (((1 + x0 % 8).toNat : Nat) : Int) := by omega
          rw [q7, this]
      refine cnt_mid (x2 := x2) (b := (1 + x0 % 8).toNat) (n := n) (c := c) (A := A) (xs := xs) h2 hb1 hx hn (by omega) (by omega) ⟨e3.1, e4, fun p hp => ?_⟩
      simp only [List.mem_cons, List.not_mem_nil, or_false] at hp
      rcases hp with rfl | rfl | rfl
      · exact p7
      · exact p1
      · exact p2
    exact CallsIn.calls key fun k => room_wide k
  · letI : Val := ⟨fun _ => (n : Int), fun _ => .slice A n c⟩
    letI : Bet := bet0
    have hv : VRs phi0 [.any, .exS 1 0 [(1, 31, 9223372036854775807)], .any] [.int .u8 x0, .slice A n c, .int .u8 x2] := by
      refine .cons _ _ _ _ (.any _) (.cons _ _ _ _ (.exS _ _ _ _ _ _ rfl ?_ ⟨⟨?_, ?_⟩, trivial⟩) (.cons _ _ _ _ (.any _) .nil))
      · show (n : Int) = 0 + (1 * (n : Int) + 0)
        omega
      · show 31 ≤ (n : Int)
        omega
      · show (n : Int) ≤ 9223372036854775807
        omega
    exact CallsIn.calls (callsIn_yes (l := [37]) (ms := []) (fun f hf => by
      simp only [List.mem_cons, List.not_mem_nil, or_false] at hf
      subst hf
      exact yes37) (fun e he => by cases he) cp_many hv W 0) fun k => room_wide k
end
end Go.Proofs.YtibmpjhffeinoaaGreat.Kx
