/-
  An executor, 21st part: regions that draw their order: new blocks, values that are the same, what is checked ahead.
  An executor, 22nd part: regions that draw their order: what is checked ahead.
  An executor, 23rd part: regions that draw their order: what the executor's run, in the text's order, says.
  An executor, 24th part: regions that draw their order: the run gives the facts.
  An executor, 25th part: regions that draw their order: the state behind any set of operations.
  An executor, 26th part: regions that draw their order: one more operation.
  An executor, 27th part: regions that draw their order: all orders.
-/
import Derived.Test.YtibmpjhffeinoaaGreatA4
namespace Go.Proofs.YtibmpjhffeinoaaGreat.Kx
open Go
variable [Val] [Bet]

noncomputable section
variable {X : Exe} {E : Env} {P : Program} {φ : Phi} {h : AH} {w : World} {fr : AF} {a : Act} {β : Type} {r : β}

omit [Val] [Bet] in
theorem thenP_some {q : Option (AV × AH)} {k : AV → AH → Option β} (he : thenP q k = some r) : ∃ v h, q = some (v, h) ∧ k v h = some r := by
  unfold thenP at he
  split at he
  · rename_i v h; exact ⟨v, h, rfl, he⟩
  · cases he

omit [Val] [Bet] in
theorem thenA_some {q : Option (AO × AV)} {k : AO → AV → Option β} (he : thenA q k = some r) : ∃ ao v, q = some (ao, v) ∧ k ao v = some r := by
  unfold thenA at he
  split at he
  · rename_i v h; exact ⟨v, h, rfl, he⟩
  · cases he

/-! ### New blocks -/
omit [Val] [Bet] in
theorem newHK_at {id : Nat} {ao : AO} {x v : AV} {h' : AH} (he : newHK none ⟨id, .e⟩ ao (fun h' => pairK x h') = some (v, h')) : v = x ∧ h'.t.get id = some ao := by
  obtain ⟨t', h1, h2⟩ := setK_some _ he
  rw [natK_eq] at h2
  cases h2
  exact ⟨rfl, by have := h1 id; rw [if_pos rfl] at this; exact this⟩
/-- An instruction that makes a block: its number is given. -/
def NewAt (P : Program) (s : Sem Value) (φ : Phi) (id : Nat) (w : World) (ao : AO) (x : AV) : Prop :=
  ∃ v o z, s.run P w = .ok v (w.alloc o) ∧ VR (φ.upd id (w.heap.size, 0, z)) x v ∧ OR (φ.upd id (w.heap.size, 0, z)) (0, z) ao o
omit [Val] [Bet] in
theorem contK_congr {fr' : AF} {op : Op} {id : Nat} (hg : Agree fr fr' (tmpsOf op)) {k : AO → AV → Option β} : contK E op fr id k = contK E op fr' id k := by
  cases op <;> try rfl
  case box t x => exact (Agree.tmpO (β := Option β) hg).1 _ _
  case buildSlice t n ps => exact (Agree.tmpP (β := Option β) hg).1 _ _
  case makeMap t o => cases o <;> rfl
  case makeSlice t x y =>
    have h1 := Agree.tmpO (β := Option β) hg
    have h2 := Agree.tmpO (β := Option β) h1.2
    simp only [contK, h1.1, h2.1]
omit [Val] [Bet] in
theorem callK_congr {fr' : AF} {ih : Task → Option Res} {f : Operand} {xs : List Operand} (hg : Agree fr fr' (tmpO f (tmpL xs []))) {k : AV → AH → Option β} : callK ih fr f xs h k = callK ih fr' f xs h k := by
  have h1 := Agree.tmpO (β := Option β) hg
  have h2 := Agree.tmpL (β := Option β) h1.2
  unfold callK
  rw [h1.1]
  congr 1
  funext fv
  cases fv <;> try rfl
  exact h2.1 _ _
omit [Val] [Bet] in
theorem opRunK_congr {fr' : AF} {ih : Task → Option Res} {op : Op} (hg : Agree fr fr' (tmpsOf op)) {k : AV → AH → Option β} : opRunK X ih op fr h k = opRunK X ih op fr' h k := by
  unfold opRunK
  split
  · exact callK_congr hg
  · exact opK_congr hg _ _
theorem OR_cells {xs : List AV} {us : List Value} {e : TypeId} {n : Nat} (hx : VRs φ xs us) (h1 : ∀ v ∈ us, v.oneCell' = true) (hn : n = us.length) : OR φ (0, n) (.cells xs) (.cells us.toArray e) := by
  subst hn
  refine ⟨_, e, rfl, by simp, fun j x hj => ?_⟩
  obtain ⟨v, h5, h6⟩ := hx.get hj
  exact ⟨v, by simpa using h5, h6, h1 v (List.mem_of_getElem? h5)⟩
section
variable {id : Nat} (hf : φ id = none)
include hf
theorem contK_some (HT : TabOK E) (hF : FR φ fr a.tmps) {o : Oper} {ao : AO} {x : AV} (he : contK E o.op fr id pairA = some (ao, x)) :
    ∃ s : Sem Value, execOp a.eval o = (do pure (.value (← s))) ∧ NewAt E.P s φ id w ao x := by
  obtain ⟨dst, op, ty, pos, after, guard⟩ := o
  have hx : ∀ z, Ext φ (φ.upd id (w.heap.size, 0, z)) := fun z => Phi.upd_ext hf
  have hn : ∀ z, (φ.upd id (w.heap.size, 0, z)) id = some (w.heap.size, 0, z) := fun z => Phi.upd_same _ _
  cases op <;> try (cases he; done)
  case alloc t =>
    obtain ⟨ti, inf, dsc, z, _, T, h1⟩ := tabK_some HT he
    cases h1
    refine ⟨_, rfl, .pointer (some ⟨w.heap.size, 0, none⟩), .cells z.cells t, z.cells.size, ?_, ptr_new (hn _), ?_⟩
    · unfold Instr.alloc
      simp [T.run_zero, newVar, newRow, newObj, Sem.run]
    · have := OR_cells (e := t) (n := z.cells.size) ((T.zs.ext (phi0_ext φ)).ext (hx z.cells.size)) (T.zs.ones T.ones) (by simp)
      simpa using this
  case box t y =>
    obtain ⟨y', h1, h2⟩ := evalK_some he hF
    obtain ⟨v, h', h3, h4⟩ := thenP_some h1
    obtain ⟨cs, h5, h6⟩ := cellsAVK_some h3 h2
    cases hb : allB oneB cs with
    | false => rw [hb] at h5; cases h5
    | true =>
      rw [hb, ite_true_] at h5
      obtain ⟨rfl, h7⟩ := newHK_at h5
      obtain ⟨ao', h8, h9⟩ := getK_some h4
      rw [h7] at h8
      cases h8
      cases h9
      refine ⟨_, rfl, .pointer (some ⟨w.heap.size, 0, none⟩), .cells (a.eval y).cells t, (a.eval y).cells.size, ?_, ptr_new (hn _), ?_⟩
      · unfold Instr.box
        simp [newVar, newRow, newObj, Sem.run]
      · have := OR_cells (e := t) (n := (a.eval y).cells.size) (h6.ext (hx (a.eval y).cells.size)) (h6.ones (allB_true hb)) (by simp)
        simpa using this
  case buildSlice t len ps =>
    obtain ⟨xs, h1, h2⟩ := partsK_some (φ := φ) (a := a) _ he hF
    obtain ⟨v, h', h3, h4⟩ := thenP_some h1
    obtain ⟨ao', h8, h9⟩ := getK_some h4
    cases h9
    obtain ⟨e, hu, h1⟩ := sliceTK_some HT h3
    obtain ⟨te, ie, de, ze, _, Te, h2'⟩ := tabK_some HT h1
    have hp : PRs φ xs (ps.map fun (i, x) => (i, a.eval x)).toList := by rw [Array.toList_map]; exact h2
    have hsem : execOp a.eval ⟨dst, .buildSlice t len ps, ty, pos, after, guard⟩ = (do pure (.value (← Instr.buildSlice t len (ps.map fun (i, x) => (i, a.eval x))))) := rfl
    generalize (ps.map fun (i, x) => (i, a.eval x)) = qs at hp hsem
    rw [ble_dec, beq_dec] at h2'
    by_cases hs : Nat.mul len te.size ≤ 16777216
    · rw [decide_eq_true hs, ite_true_] at h2'
      have hs' : len * te.size ≤ 16777216 := hs
      by_cases h0 : Nat.mul len te.size = 0
      · rw [decide_eq_true h0, ite_true_] at h2'
        have h0' : len * te.size = 0 := h0
        split at h2'
        · cases hq : qs.toList with
          | cons q l => rw [hq] at hp; exact hp.elim
          | nil =>
            have h3 : newHK none ⟨id, .e⟩ (.cells []) (fun h' => pairK (.sl (some (id, 0)) len (.k len)) h') = some (x, h') := by rw [← h2']; congr 1; funext h'; rw [natK_eq]
            obtain ⟨rfl, h7⟩ := newHK_at h3
            rw [h7] at h8
            cases h8
            refine ⟨_, hsem, .slice (some ⟨w.heap.size, 0, none⟩) len len, .cells #[] e, 0, ?_, sl_new (hn _), OR_cells .nil (fun v hv => by cases hv) rfl⟩
            unfold Instr.buildSlice
            have hsz := Te.run_size w
            simp [run_underlying hu, hsz, h0', hq, Instr.fill, newRow, newObj, Sem.run, Array.range_zero']
        · cases h2'
      · rw [decide_eq_false h0, ite_false_, repK_eq] at h2'
        have hz := Te.zs.ext (phi0_ext φ)
        have hzl : ze.cells.size = te.size := by have := hz.length; rw [Array.length_toList] at this; rw [← this, Te.zlen]
        have hm := made_VRs hz len
        obtain ⟨cells, cv, g3, g4, g5⟩ := fillK_some (arrPl te.size) xs h2' hp hm
        cases hb : allB oneB cells with
        | false => rw [hb] at g3; cases g3
        | true =>
          rw [hb, ite_true_] at g3
          have h3' : newHK none ⟨id, .e⟩ (.cells cells) (fun h' => pairK (.sl (some (id, 0)) len (.k len)) h') = some (x, h') := by rw [← g3]; congr 1; funext h'; rw [natK_eq]
          obtain ⟨rfl, h7⟩ := newHK_at h3'
          rw [h7] at h8
          cases h8
          refine ⟨_, hsem, .slice (some ⟨w.heap.size, 0, none⟩) len len, .cells cv e, cv.size, ?_, sl_new (hn _), ?_⟩
          · have hrun := run_buildSlice (P := E.P) w t e len qs cv ie ze hu Te.info Te.zero (by rw [Te.size]; omega) (by rw [Te.size]; exact h0) (by
              have h4' := g4
              rw [hzl] at h4'
              rw [Te.size]
              exact h4')
            simpa using hrun
          · have := OR_cells (e := e) (n := cv.size) (g5.ext (hx cv.size)) (g5.ones (allB_true hb)) (by simp)
            simpa using this
    · rw [decide_eq_false hs] at h2'
      cases h2'
  case makeMap t oo =>
    cases oo <;> try (cases he; done)
    obtain ⟨v, h', h3, h4⟩ := thenP_some he
    obtain ⟨ao', h8, h9⟩ := getK_some h4
    cases h9
    obtain ⟨kt, et, hu, h1⟩ := mapTK_some HT h3
    obtain ⟨n, h2, h3'⟩ := getK_some h1
    obtain ⟨rfl, h7⟩ := newHK_at h3'
    rw [h7] at h8
    cases h8
    refine ⟨_, rfl, .map (some w.heap.size), .map #[] 0, 0, ?_, .mp _ _ _ (hn _), #[], rfl, trivial, List.nodup_nil, fun e he => by cases he⟩
    simp [Instr.makeMap, newObj, Sem.run]
  case makeSlice t p q =>
    obtain ⟨x', h1, h2⟩ := evalK_some he hF
    obtain ⟨y', h3, h4⟩ := evalK_some h1 hF
    obtain ⟨v, h', h5, h6⟩ := thenP_some h3
    obtain ⟨ao', h8, h9⟩ := getK_some h6
    cases h9
    unfold makeSliceK at h5
    generalize hpv : a.eval p = pv at h2
    generalize hqv : a.eval q = qv at h4
    split at h5
    · rename_i kl l kc c
      cases h2
      cases h4
      rw [ble_dec, ble_dec] at h5
      by_cases hlc : l ≤ c
      · rw [decide_eq_true hlc, ite_true_] at h5
        by_cases hc : c ≤ 65536
        · rw [decide_eq_true hc, ite_true_] at h5
          obtain ⟨e, hu, h1⟩ := sliceTK_some HT h5
          obtain ⟨te, ie, de, ze, _, Te, h2⟩ := tabK_some HT h1
          rw [repK_eq] at h2
          have hz := Te.zs.ext (phi0_ext φ)
          have hzl : ze.cells.size = te.size := by have := hz.length; rw [Array.length_toList] at this; rw [← this, Te.zlen]
          have hm := made_VRs hz c
          have h2' : newHK none ⟨id, .e⟩ (.cells (rep te.zero c)) (fun h' => pairK (.sl (some (id, 0)) l (.k c)) h') = some (x, h') := by rw [← h2]; congr 1; funext h'; rw [natK_eq, natK_eq]
          obtain ⟨rfl, h7⟩ := newHK_at h2'
          rw [h7] at h8
          cases h8
          have hb := Te.bytes
          have hbc : (ie.bytes : Int) * (c : Int) ≤ 281474976710656 := by
            have h3 : ie.bytes * c ≤ 1024 * 65536 := Nat.mul_le_mul hb hc
            have h4 : ((ie.bytes * c : Nat) : Int) ≤ 281474976710656 := by omega
            rwa [Int.natCast_mul] at h4
          have hrun := run_make (P := E.P) w t e ie ze hu Te.info Te.zero kl kc (l : Int) (c : Int) (by omega) (by omega) hbc (by omega)
          simp only [Int.toNat_natCast] at hrun
          have hsem : execOp a.eval ⟨dst, .makeSlice t p q, ty, pos, after, guard⟩ = (do pure (.value (← Instr.makeSlice t (.int kl (Int.ofNat l)) (.int kc (Int.ofNat c))))) := by
            show (do pure (Next.value (← Instr.makeSlice t (a.eval p) (a.eval q))) : Sem Next) = _
            rw [hpv, hqv]
          have hw : (Instr.makeSlice t (.int kl (Int.ofNat l)) (.int kc (Int.ofNat c))).run E.P w = .ok (.slice (some ⟨w.heap.size, 0, none⟩) l c) (w.alloc (.cells (madeCells ze.cells (c * ze.cells.size)) e)) := by
            rw [show Int.ofNat l = (l : Int) from rfl, show Int.ofNat c = (c : Int) from rfl, hrun, Te.size, ← hzl]
          refine ⟨_, hsem, _, _, (madeCells ze.cells (c * ze.cells.size)).size, hw, sl_new (hn _), ?_⟩
          have := OR_cells (e := e) (n := (madeCells ze.cells (c * ze.cells.size)).size) (hm.ext (hx (madeCells ze.cells (c * ze.cells.size)).size)) (hm.ones (rep_ones Te.ones c)) (by simp)
          simpa using this
        · rw [decide_eq_false hc] at h5; cases h5
      · rw [decide_eq_false hlc] at h5; cases h5
    · cases h5
end
end
end Go.Proofs.YtibmpjhffeinoaaGreat.Kx

namespace Go.Proofs.YtibmpjhffeinoaaGreat.Kx
open Go
variable [Val] [Bet]

noncomputable section
variable {X : Exe} {E : Env} {P : Program} {φ : Phi} {h : AH} {w : World} {fr : AF} {a : Act} {β : Type} {r : β}

/-! ### Values that are the same -/
omit [Val] [Bet] in
theorem eqFs_true (xs : List AV) : ∀ {ys : List AV}, eqFs xs ys = true → xs = ys := by
  induction xs with
  | nil =>
    intro ys h
    cases ys with
    | nil => rfl
    | cons y ys => cases h
  | cons x xs ih =>
    intro ys h
    cases ys with
    | nil => cases h
    | cons y ys =>
      have h' : ite_ (eqF x y) (eqFs xs ys) false = true := h
      obtain ⟨h1, h2⟩ := ite_and h'
      rw [eqF_true h1, ih h2]
omit [Val] [Bet] in
theorem eqV_true {x y : AV} (h : eqV x y = true) : x = y := by
  unfold eqV at h
  split at h
  · rw [eqFs_true _ h]
  · rw [eqFs_true _ h]
  · obtain ⟨h1, h2⟩ := ite_and h
    obtain ⟨h3, h4⟩ := ite_and h2
    rw [beq_true' h1, eqFs_true _ h3, eqFs_true _ h4]
  · exact eqF_true h

/-! ### Masks -/
omit [Val] [Bet] in
theorem bitB_eq (m i : Nat) : bitB m i = m.testBit i := by
  unfold bitB
  rw [beq_dec]
  rw [Nat.testBit_eq_decide_div_mod_eq]
  rfl
omit [Val] [Bet] in
theorem bitB_zero (i : Nat) : bitB 0 i = false := by rw [bitB_eq, Nat.zero_testBit]
omit [Val] [Bet] in
theorem bitB_lor (a b i : Nat) : bitB (Nat.lor a b) i = (bitB a i || bitB b i) := by
  rw [bitB_eq, bitB_eq, bitB_eq]
  exact Nat.testBit_or a b i
omit [Val] [Bet] in
theorem bitB_pow (j i : Nat) : bitB (Nat.pow 2 j) i = decide (j = i) := by
  rw [bitB_eq]
  exact Nat.testBit_two_pow
def getM (ms : List Nat) (i : Nat) : Nat := (ms[i]?).getD 0
omit [Val] [Bet] in
theorem nthN_eq (l : List Nat) : ∀ n, nthN l n = getM l n := by
  induction l with
  | nil => intro n; simp [getM]; rfl
  | cons x l ih =>
    intro n
    cases n with
    | zero => rfl
    | succ n =>
      have := ih n
      unfold getM at *
      rw [List.getElem?_cons_succ]
      exact this
omit [Val] [Bet] in
theorem snocN_eq (l : List Nat) (x : Nat) : ∀ k : List Nat → β, snocN l x k = k (l ++ [x]) := by
  induction l with
  | nil => intro k; rfl
  | cons y l ih => intro k; exact ih fun ys => k (y :: ys)
omit [Val] [Bet] in
theorem maskOf_bit {ms : List Nat} {j : Nat} (es : List Edge) (h : bitB (maskOf ms es) j = true) : ∃ e ∈ es, Region.binds .any e = true ∧ (j = e.on ∨ bitB (getM ms e.on) j = true) := by
  induction es with
  | nil => rw [show maskOf ms [] = 0 from rfl, bitB_zero] at h; cases h
  | cons e es ih =>
    have h' : bitB (ite_ (Region.binds .any e) (Nat.lor (Nat.lor (Nat.pow 2 e.on) (nthN ms e.on)) (maskOf ms es)) (maskOf ms es)) j = true := h
    cases hb : Region.binds .any e with
    | false =>
      rw [hb, ite_false_] at h'
      obtain ⟨e', h1, h2⟩ := ih h'
      exact ⟨e', List.mem_cons_of_mem _ h1, h2⟩
    | true =>
      rw [hb, ite_true_, bitB_lor, bitB_lor, bitB_pow, nthN_eq] at h'
      simp only [Bool.or_eq_true, decide_eq_true_eq] at h'
      rcases h' with (h1 | h1) | h1
      · exact ⟨e, List.mem_cons_self, hb, .inl h1.symm⟩
      · exact ⟨e, List.mem_cons_self, hb, .inr h1⟩
      · obtain ⟨e', h1, h2⟩ := ih h1
        exact ⟨e', List.mem_cons_of_mem _ h1, h2⟩
omit [Val] [Bet] in
theorem maskOf_of {ms : List Nat} {j : Nat} (es : List Edge) (e : Edge) (he : e ∈ es) (hb : Region.binds .any e = true) (hj : j = e.on ∨ bitB (getM ms e.on) j = true) : bitB (maskOf ms es) j = true := by
  induction es with
  | nil => cases he
  | cons e' es ih =>
    show bitB (ite_ (Region.binds .any e') (Nat.lor (Nat.lor (Nat.pow 2 e'.on) (nthN ms e'.on)) (maskOf ms es)) (maskOf ms es)) j = true
    cases hb' : Region.binds .any e' with
    | false =>
      rw [ite_false_]
      cases he with
      | head => rw [hb] at hb'; cases hb'
      | tail _ he => exact ih he
    | true =>
      rw [ite_true_, bitB_lor, bitB_lor, bitB_pow, nthN_eq]
      cases he with
      | head => rcases hj with rfl | hj <;> simp [*]
      | tail _ he => rw [ih he]; simp
omit [Val] [Bet] in
theorem masksK_some (os : List Oper) : ∀ {ms : List Nat} {k : List Nat → Option β}, masksK os ms k = some r → ∃ ms', k ms' = some r ∧ ms'.length = ms.length + os.length ∧ (∀ i, i < ms.length → ms'[i]? = ms[i]?) ∧
    ∀ i o, os[i]? = some o → ms'[ms.length + i]? = some (maskOf (ms'.take (ms.length + i)) o.after.toList) := by
  induction os with
  | nil => intro ms k h; exact ⟨ms, h, rfl, fun _ _ => rfl, fun i o ho => by simp at ho⟩
  | cons o os ih =>
    intro ms k h
    have h' : natK (maskOf ms o.after.toList) (fun m => snocN ms m fun ms => masksK os ms k) = some r := h
    rw [natK_eq, snocN_eq] at h'
    obtain ⟨ms', h1, h2, h3, h4⟩ := ih h'
    have hl : (ms ++ [maskOf ms o.after.toList]).length = ms.length + 1 := by simp
    refine ⟨ms', h1, by rw [h2, hl, List.length_cons]; omega, fun i hi => ?_, fun i o' ho => ?_⟩
    · rw [h3 i (by rw [hl]; omega), List.getElem?_append_left hi]
    · cases i with
      | zero =>
        simp at ho
        subst ho
        have htake : ms'.take ms.length = ms := by
          apply List.ext_getElem?
          intro i
          rw [List.getElem?_take]
          by_cases hi : i < ms.length
          · rw [if_pos hi, h3 i (by rw [hl]; omega), List.getElem?_append_left hi]
          · rw [if_neg hi, List.getElem?_eq_none (by omega)]
        rw [Nat.add_zero, htake, h3 _ (by rw [hl]; omega)]
        simp
      | succ i =>
        have := h4 i o' (by simpa using ho)
        rw [hl] at this
        rw [show ms.length + (i + 1) = ms.length + 1 + i from by omega]
        exact this

/-! ### What is checked ahead -/
omit [Val] [Bet] in
theorem dstB_true {o : Oper} {t : Nat} : dstB o t = true ↔ o.dst = some t := by
  unfold dstB
  cases o.dst with
  | none => simp
  | some s => simp only [beq_dec, decide_eq_true_eq, Option.some.injEq]
omit [Val] [Bet] in
theorem edgesB_true {i : Nat} (es : List Edge) (h : edgesB i es = true) : ∀ e ∈ es, Region.binds .any e = true → e.on < i := by
  induction es with
  | nil => intro e he; cases he
  | cons e es ih =>
    have h' : ite_ (Region.binds .any e) (ite_ (Nat.blt e.on i) (edgesB i es) false) (edgesB i es) = true := h
    intro e' he' hb
    cases hbe : Region.binds .any e with
    | false =>
      rw [hbe, ite_false_] at h'
      cases he' with
      | head => rw [hbe] at hb; cases hb
      | tail _ he' => exact ih h' e' he' hb
    | true =>
      rw [hbe, ite_true_] at h'
      obtain ⟨h1, h2⟩ := ite_and h'
      cases he' with
      | head => exact blt_true h1
      | tail _ he' => exact ih h2 e' he' hb
omit [Val] [Bet] in
theorem orB_true {a b : Bool} (h : orB a b = true) : a = true ∨ b = true := by
  cases a with
  | true => exact .inl rfl
  | false => exact .inr h
omit [Val] [Bet] in
theorem writersB_true {t i m : Nat} (os : List Oper) : ∀ {n : Nat} {ms : List Nat}, writersB t i m os n ms = true → ∀ j o, os[j]? = some o → o.dst = some t → bitB m (n + j) = true ∨ bitB (getM ms j) i = true ∨ i = n + j := by
  induction os with
  | nil => intro n ms _ j o ho; simp at ho
  | cons o os ih =>
    intro n ms h j o' ho hd
    cases ms with
    | nil => cases h
    | cons mj ms =>
      have h' : ite_ (dstB o t) (ite_ (orB (bitB m n) (orB (bitB mj i) (Nat.beq i n))) (writersB t i m os (Nat.succ n) ms) false) (writersB t i m os (Nat.succ n) ms) = true := h
      cases j with
      | zero =>
        simp at ho
        subst ho
        rw [dstB_true.2 hd, ite_true_] at h'
        rcases orB_true (ite_and h').1 with h1 | h1
        · exact .inl h1
        · rcases orB_true h1 with h1 | h1
          · exact .inr (.inl h1)
          · exact .inr (.inr (beq_true' h1))
      | succ j =>
        have h2 : writersB t i m os (Nat.succ n) ms = true := by
          cases hb : dstB o t with
          | false => rw [hb] at h'; exact h'
          | true => rw [hb] at h'; exact (ite_and h').2
        have := ih h2 j o' (by simpa using ho) hd
        rwa [show n + (j + 1) = n.succ + j from by omega]
omit [Val] [Bet] in
theorem readsB_true {i m : Nat} {os : List Oper} {ms : List Nat} (ts : List Nat) (h : readsB i m os ms ts = true) : ∀ t ∈ ts, ∀ j o, os[j]? = some o → o.dst = some t → bitB m j = true ∨ bitB (getM ms j) i = true ∨ i = j := by
  induction ts with
  | nil => intro t ht; cases ht
  | cons s ts ih =>
    have h' : ite_ (writersB s i m os 0 ms) (readsB i m os ms ts) false = true := h
    obtain ⟨h1, h2⟩ := ite_and h'
    intro t ht j o ho hd
    cases ht with
    | head => have := writersB_true os h1 j o ho hd; rwa [Nat.zero_add] at this
    | tail _ ht => exact ih h2 t ht j o ho hd
omit [Val] [Bet] in
theorem noneB_true {t : Nat} (rest : List Oper) (h : noneB t rest = true) : ∀ o ∈ rest, o.dst ≠ some t := by
  induction rest with
  | nil => intro o ho; cases ho
  | cons o os ih =>
    have h' : ite_ (dstB o t) false (noneB t os) = true := h
    intro o' ho hd
    cases hb : dstB o t with
    | true => rw [hb] at h'; cases h'
    | false =>
      rw [hb, ite_false_] at h'
      cases ho with
      | head => rw [dstB_true.2 hd] at hb; cases hb
      | tail _ ho => exact ih h' o' ho hd
omit [Val] [Bet] in
theorem staticB_true {os : List Oper} {ms0 : List Nat} (rest : List Oper) : ∀ {i : Nat} {ms : List Nat}, staticB os ms0 rest i ms = true → ∀ k o, rest[k]? = some o → operB os ms0 o (rest.drop (k + 1)) (i + k) (getM ms k) = true := by
  induction rest with
  | nil => intro i ms _ k o ho; simp at ho
  | cons o rest ih =>
    intro i ms h k o' ho
    cases ms with
    | nil => cases h
    | cons m ms =>
      have h' : ite_ (operB os ms0 o rest i m) (staticB os ms0 rest (Nat.succ i) ms) false = true := h
      obtain ⟨h1, h2⟩ := ite_and h'
      cases k with
      | zero => simp at ho; subst ho; exact h1
      | succ k =>
        have := ih h2 k o' (by simpa using ho)
        rw [show i + (k + 1) = i.succ + k from by omega]
        exact this
/-- What is known ahead of a region that draws its order: of its operations, and of the masks. -/
structure Ahead (ops : Array Oper) (M : Nat → Nat) : Prop where
  edge : ∀ (i : Nat) (o : Oper), ops[i]? = some o → ∀ e ∈ o.after, Region.binds .any e = true → e.on < i
  mask : ∀ (i : Nat) (o : Oper) (j : Nat), ops[i]? = some o → bitB (M i) j = true → ∃ e ∈ o.after, Region.binds .any e = true ∧ (j = e.on ∨ bitB (M e.on) j = true)
  reads : ∀ (i : Nat) (o : Oper), ops[i]? = some o → ∀ t ∈ tmpsOf o.op, ∀ (j : Nat) (oj : Oper), ops[j]? = some oj → oj.dst = some t → bitB (M i) j = true ∨ bitB (M j) i = true ∨ i = j
  trans : ∀ (i : Nat) (o : Oper) (j k : Nat), ops[i]? = some o → bitB (M i) j = true → bitB (M j) k = true → bitB (M i) k = true
  guard : ∀ (i : Nat) (o : Oper) (j : Nat) (b : Bool), ops[i]? = some o → o.guard = some (j, b) → bitB (M i) j = true
  dst : ∀ (i j : Nat) (o oj : Oper) (t : Nat), ops[i]? = some o → ops[j]? = some oj → i < j → o.dst = some t → oj.dst ≠ some t
omit [Val] [Bet] in
theorem Ahead.bitLt {ops : Array Oper} {M : Nat → Nat} (H : Ahead ops M) : ∀ (i : Nat) (o : Oper) (j : Nat), ops[i]? = some o → bitB (M i) j = true → j < i := by
  intro i
  induction i using Nat.strongRecOn with
  | _ i ih =>
    intro o j ho hj
    obtain ⟨e, he, hb, h5⟩ := H.mask i o j ho hj
    have hlt := H.edge i o ho e he hb
    rcases h5 with rfl | h5
    · exact hlt
    · have hin : i < ops.size := (Array.getElem?_eq_some_iff.1 ho).1
      have := ih e.on hlt ops[e.on] j (Array.getElem?_eq_getElem (by omega)) h5
      omega
omit [Val] [Bet] in
theorem ahead_of {ops : Array Oper} {ms : List Nat} (_h2 : ms.length = ops.size) (h4 : ∀ i o, ops.toList[i]? = some o → ms[i]? = some (maskOf (ms.take i) o.after.toList)) (hs : staticB ops.toList ms ops.toList 0 ms = true) : Ahead ops (getM ms) := by
  have hop : ∀ (i : Nat) (o : Oper), ops[i]? = some o → operB ops.toList ms o (ops.toList.drop (i + 1)) i (getM ms i) = true := fun i o ho => by
    have := staticB_true _ hs i o (by rw [Array.getElem?_toList]; exact ho)
    rwa [Nat.zero_add] at this
  have hedge : ∀ (i : Nat) (o : Oper), ops[i]? = some o → ∀ e ∈ o.after, Region.binds .any e = true → e.on < i := fun i o ho e he hb => edgesB_true _ (ite_and (hop i o ho)).1 e (by simpa using he) hb
  have hM : ∀ (i : Nat) (o : Oper), ops[i]? = some o → getM ms i = maskOf (ms.take i) o.after.toList := fun i o ho => by
    have hm := h4 i o (by rw [Array.getElem?_toList]; exact ho)
    unfold getM; rw [hm]; rfl
  have htk : ∀ i j, j < i → getM (ms.take i) j = getM ms j := fun i j hj => by
    unfold getM; rw [List.getElem?_take, if_pos hj]
  have hmask : ∀ (i : Nat) (o : Oper) (j : Nat), ops[i]? = some o → bitB (getM ms i) j = true → ∃ e ∈ o.after, Region.binds .any e = true ∧ (j = e.on ∨ bitB (getM ms e.on) j = true) := by
    intro i o j ho hj
    rw [hM i o ho] at hj
    obtain ⟨e, he, hb, h5⟩ := maskOf_bit _ hj
    have he' : e ∈ o.after := by simpa using he
    rw [htk i _ (hedge i o ho e he' hb)] at h5
    exact ⟨e, he', hb, h5⟩
  have htrans : ∀ (i : Nat) (o : Oper) (j k : Nat), ops[i]? = some o → bitB (getM ms i) j = true → bitB (getM ms j) k = true → bitB (getM ms i) k = true := by
    intro i
    induction i using Nat.strongRecOn with
    | _ i ih =>
      intro o j k ho hj hk
      obtain ⟨e, he, hb, h5⟩ := hmask i o j ho hj
      have hlt := hedge i o ho e he hb
      have hin : i < ops.size := (Array.getElem?_eq_some_iff.1 ho).1
      have hsub : bitB (getM ms e.on) k = true := by
        rcases h5 with rfl | h5
        · exact hk
        · exact ih e.on hlt ops[e.on] j k (Array.getElem?_eq_getElem (by omega)) h5 hk
      rw [hM i o ho]
      exact maskOf_of _ e (by simpa using he) hb (.inr (by rw [htk i _ hlt]; exact hsub))
  refine ⟨hedge, hmask, fun i o ho t ht j oj hoj hd => ?_, htrans, fun i o j b ho hg => ?_, fun i j o oj t ho hoj hij hd hdj => ?_⟩
  · exact readsB_true _ (ite_and (ite_and (hop i o ho)).2).1 t ht j oj (by rw [Array.getElem?_toList]; exact hoj) hd
  · have h5 := (ite_and (ite_and (ite_and (hop i o ho)).2).2).1
    rw [hg] at h5
    exact h5
  · have h5 := (ite_and (ite_and (ite_and (hop i o ho)).2).2).2
    rw [hd] at h5
    refine noneB_true _ h5 oj ?_ hdj
    refine List.mem_of_getElem? (i := j - (i + 1)) ?_
    rw [List.getElem?_drop, show i + 1 + (j - (i + 1)) = j from by omega, Array.getElem?_toList]
    exact hoj
end
end Go.Proofs.YtibmpjhffeinoaaGreat.Kx

namespace Go.Proofs.YtibmpjhffeinoaaGreat.Kx
open Go
variable [Val] [Bet]

noncomputable section
variable {X : Exe} {E : Env} {P : Program} {β : Type} {r : β}

def upd {α : Type} (f : Nat → α) (n : Nat) (v : α) : Nat → α := fun j => if j = n then v else f j
omit [Val] [Bet] in
theorem upd_eq {α : Type} (f : Nat → α) (n : Nat) (v : α) : upd f n v n = v := if_pos rfl
omit [Val] [Bet] in
theorem upd_ne {α : Type} (f : Nat → α) {n j : Nat} (v : α) (h : j ≠ n) : upd f n v j = f j := if_neg h
inductive Kd where
  | skip
  | pure
  | read
  | made (ao : AO)
  | eff (h0 : AH)
def Kd.isEff : Kd → Bool
  | .eff _ => true
  | _ => false
def Kd.wants : Kd → Bool
  | .skip => false
  | _ => true
structure TT where
  fr : Nat → AF
  al : Nat → AH
  x : Nat → AV
  kd : Nat → Kd
def ReadOK (E : Env) (op : Op) (fr : AF) (α : AH) (x : AV) : Prop := ∃ h2, opK none E op fr α pairK = some (x, h2)
/-- Of one operation. -/
inductive Fact (X : Exe) (ih : Task → Option Res) (base : Nat) (M : Nat → Nat) (kd : Nat → Kd) (n : Nat) (o : Oper) (fr : AF) (α α' : AH) (x : AV) : Kd → Prop where
  | skip (h1 : x = .tup []) (h2 : α' = α) : Fact X ih base M kd n o fr α α' x .skip
  | pure (h1 : clsOf o.op = .pure) (h2 : ReadOK X.E o.op fr α x) (h3 : α' = α) : Fact X ih base M kd n o fr α α' x .pure
  | read (h1 : clsOf o.op = .read) (h3 : α' = α) : Fact X ih base M kd n o fr α α' x .read
  | made (ao : AO) (h2 : contK X.E o.op fr (base + n) pairA = some (ao, x)) (h3 : α' = α) (h4 : ao.isF = false) : Fact X ih base M kd n o fr α α' x (.made ao)
  | eff (h0 : AH) (h1 : opRunK X ih o.op fr h0 pairK = some (x, α')) (h2 : h0.nx = α.nx) (h3 : ∀ e, e < n → (kd e).isEff = true → bitB (M n) e = true)
      (h4 : ∀ m a, h0.get m = some a → α.get m = some a ∨ ∃ j, j < n ∧ kd j = .made a ∧ bitB (M n) j = true ∧ (∀ e, e < n → (kd e).isEff = true → bitB (M e) j = false) ∧ m = base + j) : Fact X ih base M kd n o fr α α' x (.eff h0)
omit [Val] [Bet] in
theorem Fact.congr {ih : Task → Option Res} {base : Nat} {M : Nat → Nat} {kd kd' : Nat → Kd} {n : Nat} {o : Oper} {fr : AF} {α α' : AH} {x : AV} {k : Kd} (h : Fact X ih base M kd n o fr α α' x k) (he : ∀ j, j < n → kd' j = kd j) : Fact X ih base M kd' n o fr α α' x k := by
  cases h with
  | skip h1 h2 => exact .skip h1 h2
  | pure h1 h2 h3 => exact .pure h1 h2 h3
  | read h1 h3 => exact .read h1 h3
  | made ao h2 h3 h4 => exact .made ao h2 h3 h4
  | eff h0 h1 h2 h3 h4 =>
    refine .eff h0 h1 h2 (fun e he' hk => h3 e he' (by rw [← he e he']; exact hk)) fun m a hm => ?_
    rcases h4 m a hm with h5 | ⟨j, j1, j2, j3, j4, j5⟩
    · exact .inl h5
    · exact .inr ⟨j, j1, by rw [he j j1]; exact j2, j3, fun e he' hk => j4 e he' (by rw [← he e he']; exact hk), j5⟩
omit [Val] [Bet] in
theorem Fact.alS {ih : Task → Option Res} {base : Nat} {M : Nat → Nat} {kd : Nat → Kd} {n : Nat} {o : Oper} {fr : AF} {α α' : AH} {x : AV} {k : Kd} (h : Fact X ih base M kd n o fr α α' x k) (he : k.isEff = false) : α' = α := by
  cases h <;> first | assumption | cases he
structure Facts (X : Exe) (ih : Task → Option Res) (ops : Array Oper) (M : Nat → Nat) (base : Nat) (fr0 : AF) (α0 : AH) (T : TT) (n : Nat) : Prop where
  fr0 : T.fr 0 = fr0
  al0 : T.al 0 = α0
  frS : ∀ (i : Nat) (o : Oper), i < n → ops[i]? = some o → (T.fr (i + 1)).nt = (T.fr i).nt ∧ (∀ t, (T.fr (i + 1)).t.get t = if o.dst = some t then some (T.x i) else (T.fr i).t.get t) ∧ ∀ t, o.dst = some t → t < (T.fr i).nt
  want : ∀ (i : Nat) (o : Oper), i < n → ops[i]? = some o → wantK ops.toList (T.fr i) o.guard (some true) (some false) = some (T.kd i).wants
  fact : ∀ (i : Nat) (o : Oper), i < n → ops[i]? = some o → Fact X ih base M T.kd i o (T.fr i) (T.al i) (T.al (i + 1)) (T.x i) (T.kd i)
  back : ∀ (i : Nat) (o : Oper), i < n → ops[i]? = some o → T.kd i = .read → ∀ j, j ≤ i → (∀ e, j ≤ e → e < i → (T.kd e).isEff = true → bitB (M i) e = false) → ReadOK X.E o.op (T.fr i) (T.al j) (T.x i)
  again : ∀ (i : Nat) (o : Oper), i < n → ops[i]? = some o → T.kd i = .read → ∀ p, i < p → p ≤ n → (∀ e, i < e → e < p → (T.kd e).isEff = true → bitB (M e) i = false) → ReadOK X.E o.op (T.fr i) (T.al p) (T.x i)
section
variable {ih : Task → Option Res} {ops : Array Oper} {M : Nat → Nat} {base : Nat} {fr0 : AF} {α0 : AH} {T : TT} {n : Nat}
omit [Val] [Bet] in
theorem Facts.snoc (F : Facts X ih ops M base fr0 α0 T n) {o : Oper} (ho : ops[n]? = some o) {fr' : AF} {α' : AH} {x : AV} {k : Kd}
    (h1 : fr'.nt = (T.fr n).nt ∧ (∀ t, fr'.t.get t = if o.dst = some t then some x else (T.fr n).t.get t) ∧ ∀ t, o.dst = some t → t < (T.fr n).nt)
    (h2 : wantK ops.toList (T.fr n) o.guard (some true) (some false) = some k.wants)
    (h3 : Fact X ih base M T.kd n o (T.fr n) (T.al n) α' x k)
    (h4 : k = .read → ∀ j, j ≤ n → (∀ e, j ≤ e → e < n → (T.kd e).isEff = true → bitB (M n) e = false) → ReadOK X.E o.op (T.fr n) (T.al j) x)
    (h5 : k.isEff = true → ∀ i oi, i < n → ops[i]? = some oi → T.kd i = .read → bitB (M n) i = false → ReadOK X.E oi.op (T.fr i) α' (T.x i)) :
    Facts X ih ops M base fr0 α0 ⟨upd T.fr (n + 1) fr', upd T.al (n + 1) α', upd T.x n x, upd T.kd n k⟩ (n + 1) := by
  have f1 : ∀ j, j ≤ n → upd T.fr (n + 1) fr' j = T.fr j := fun j hj => upd_ne _ _ (by omega)
  have a1 : ∀ j, j ≤ n → upd T.al (n + 1) α' j = T.al j := fun j hj => upd_ne _ _ (by omega)
  have x1 : ∀ j, j < n → upd T.x n x j = T.x j := fun j hj => upd_ne _ _ (by omega)
  have k1 : ∀ j, j < n → upd T.kd n k j = T.kd j := fun j hj => upd_ne _ _ (by omega)
  refine ⟨(f1 0 (Nat.zero_le _)).trans F.fr0, (a1 0 (Nat.zero_le _)).trans F.al0, fun i oi hi hoi => ?_, fun i oi hi hoi => ?_, fun i oi hi hoi => ?_, fun i oi hi hoi hk j hj he => ?_, fun i oi hi hoi hk p hp1 hp2 he => ?_⟩
  · simp only
    rcases Nat.lt_or_ge i n with hin | hin
    · rw [f1 i (by omega), f1 (i + 1) (by omega), x1 i hin]; exact F.frS i oi hin hoi
    · have : i = n := by omega
      subst this
      rw [ho] at hoi
      cases hoi
      rw [f1 i (by omega), upd_eq, upd_eq]; exact h1
  · simp only
    rcases Nat.lt_or_ge i n with hin | hin
    · rw [f1 i (by omega), k1 i hin]; exact F.want i oi hin hoi
    · have : i = n := by omega
      subst this
      rw [ho] at hoi
      cases hoi
      rw [f1 i (by omega), upd_eq]; exact h2
  · simp only
    rcases Nat.lt_or_ge i n with hin | hin
    · rw [f1 i (by omega), a1 i (by omega), a1 (i + 1) (by omega), x1 i hin, k1 i hin]
      exact (F.fact i oi hin hoi).congr fun j hj => k1 j (by omega)
    · have : i = n := by omega
      subst this
      rw [ho] at hoi
      cases hoi
      rw [f1 i (by omega), a1 i (by omega), upd_eq, upd_eq, upd_eq]
      exact h3.congr fun j hj => k1 j hj
  · simp only at hk he ⊢
    rcases Nat.lt_or_ge i n with hin | hin
    · rw [f1 i (by omega), a1 j (by omega), x1 i hin]
      rw [k1 i hin] at hk
      exact F.back i oi hin hoi hk j hj fun e e1 e2 e3 => he e e1 e2 (by rw [k1 e (by omega)]; exact e3)
    · have : i = n := by omega
      subst this
      rw [ho] at hoi
      cases hoi
      rw [f1 i (by omega), a1 j (by omega), upd_eq]
      rw [upd_eq] at hk
      exact h4 hk j hj fun e e1 e2 e3 => he e e1 e2 (by rw [k1 e (by omega)]; exact e3)
  · simp only at hk he ⊢
    rcases Nat.lt_or_ge i n with hin | hin
    · rw [f1 i (by omega), x1 i hin]
      rw [k1 i hin] at hk
      have he' : ∀ e, i < e → e < p → e < n → (T.kd e).isEff = true → bitB (M e) i = false := fun e e1 e2 e3 e4 => he e e1 e2 (by rw [k1 e e3]; exact e4)
      rcases Nat.lt_or_ge n p with hpn | hpn
      · have : p = n + 1 := by omega
        subst this
        rw [upd_eq]
        cases hke : k.isEff with
        | true => exact h5 hke i oi hin hoi hk (he n hin (by omega) (by rw [upd_eq]; exact hke))
        | false =>
          rw [h3.alS hke]
          exact F.again i oi hin hoi hk n hin (Nat.le_refl _) fun e e1 e2 e3 => he' e e1 (by omega) e2 e3
      · rw [a1 p hpn]
        exact F.again i oi hin hoi hk p hp1 hpn fun e e1 e2 e3 => he' e e1 e2 (by omega) e3
    · have : i = n := by omega
      subst this
      rw [ho] at hoi
      cases hoi
      have : p = i + 1 := by omega
      subst this
      rw [f1 i (by omega), upd_eq, upd_eq]
      rw [upd_eq] at hk
      rw [h3.alS (by rw [hk]; rfl)]
      exact h4 hk i (Nat.le_refl _) fun e e1 e2 _ => by omega

/-! ### The executor's lists -/
omit [Val] [Bet] in
theorem layK_some {p : Nat → Bool} (pend : List (Nat × Nat × AO)) : ∀ {h : AH} {k : AH → List (Nat × Nat × AO) → Option β}, layK p pend h k = some r → ∃ h' l, k h' l = some r ∧ h'.nx = h.nx ∧
    (∀ m a, h'.get m = some a → h.get m = some a ∨ ∃ q ∈ pend, p q.1 = true ∧ m = q.2.1 ∧ a = q.2.2) ∧ ∀ q ∈ l, q ∈ pend ∧ p q.1 = false := by
  induction pend with
  | nil => intro h k he; exact ⟨h, [], he, rfl, fun m a hm => .inl hm, fun q hq => by cases hq⟩
  | cons q pend rec =>
    intro h k he
    have he' : ite_ (p q.1) (setHK none h q.2.1 q.2.2 fun h => layK p pend h k) (layK p pend h fun h l => k h (q :: l)) = some r := he
    cases hp : p q.1 with
    | true =>
      rw [hp, ite_true_] at he'
      obtain ⟨h1, h2, h3, h4⟩ := setHK_some he'
      obtain ⟨h', l, h5, h6, h7, h8⟩ := rec h4
      refine ⟨h', l, h5, h6.trans h2, fun m a hm => ?_, fun q' hq' => ⟨List.mem_cons_of_mem _ (h8 q' hq').1, (h8 q' hq').2⟩⟩
      rcases h7 m a hm with h9 | ⟨q', h9, h10⟩
      · rcases h3 m a h9 with ⟨h11, h12⟩ | ⟨_, h11⟩
        · exact .inr ⟨q, List.mem_cons_self, hp, h11, h12⟩
        · exact .inl h11
      · exact .inr ⟨q', List.mem_cons_of_mem _ h9, h10⟩
    | false =>
      rw [hp, ite_false_] at he'
      obtain ⟨h', l, h5, h6, h7, h8⟩ := rec he'
      refine ⟨h', q :: l, h5, h6, fun m a hm => ?_, fun q' hq' => ?_⟩
      · rcases h7 m a hm with h9 | ⟨q', h9, h10⟩
        · exact .inl h9
        · exact .inr ⟨q', List.mem_cons_of_mem _ h9, h10⟩
      · cases hq' with
        | head => exact ⟨List.mem_cons_self, hp⟩
        | tail _ hq' => exact ⟨List.mem_cons_of_mem _ (h8 q' hq').1, (h8 q' hq').2⟩
omit [Val] [Bet] in
theorem sameRead_some {op : Op} {fr : AF} {v : AV} {h : AH} {k : Option β} (he : sameRead E op fr v h k = some r) : k = some r ∧ ReadOK E op fr h v := by
  obtain ⟨v', h', h1, h2⟩ := thenP_some he
  cases hb : eqV v v' with
  | false => rw [hb] at h2; cases h2
  | true =>
    rw [hb] at h2
    rw [← eqV_true hb] at h1
    exact ⟨h2, h', h1⟩
omit [Val] [Bet] in
theorem againK_some {m : Nat} {h : AH} {k : Option β} (rds : List (Nat × Op × AF × AV)) (he : againK E m h rds k = some r) : k = some r ∧ ∀ q ∈ rds, bitB m q.1 = false → ReadOK E q.2.1 q.2.2.1 h q.2.2.2 := by
  induction rds with
  | nil => exact ⟨he, fun q hq => by cases hq⟩
  | cons q rds rec =>
    have he' : ite_ (bitB m q.1) (againK E m h rds k) (sameRead E q.2.1 q.2.2.1 q.2.2.2 h (againK E m h rds k)) = some r := he
    cases hb : bitB m q.1 with
    | true =>
      rw [hb, ite_true_] at he'
      obtain ⟨h1, h2⟩ := rec he'
      refine ⟨h1, fun q' hq' hb' => ?_⟩
      cases hq' with
      | head => rw [hb] at hb'; cases hb'
      | tail _ hq' => exact h2 q' hq' hb'
    | false =>
      rw [hb, ite_false_] at he'
      obtain ⟨h3, h4⟩ := sameRead_some he'
      obtain ⟨h1, h2⟩ := rec h3
      refine ⟨h1, fun q' hq' hb' => ?_⟩
      cases hq' with
      | head => exact h4
      | tail _ hq' => exact h2 q' hq' hb'
def HistOK (T : TT) : Nat → List (Nat × AH) → Prop
  | n, [] => ∀ e, e < n → (T.kd e).isEff = false
  | n, (e, α) :: rest => e < n ∧ (T.kd e).isEff = true ∧ α = T.al e ∧ (∀ e', e < e' → e' < n → (T.kd e').isEff = false) ∧ HistOK T e rest
omit [Val] [Bet] in
theorem HistOK.congr {T' : TT} : ∀ {hist : List (Nat × AH)} {n : Nat}, HistOK T n hist → (∀ j, j < n → T'.kd j = T.kd j) → (∀ j, j < n → T'.al j = T.al j) → HistOK T' n hist
  | [], n, h, hk, _ => fun e he => by rw [hk e he]; exact h e he
  | (e, α) :: rest, n, ⟨h1, h2, h3, h4, h5⟩, hk, ha => ⟨h1, by rw [hk e h1]; exact h2, by rw [ha e h1]; exact h3, fun e' e1 e2 => by rw [hk e' e2]; exact h4 e' e1 e2,
      HistOK.congr h5 (fun j hj => hk j (by omega)) fun j hj => ha j (by omega)⟩
omit [Val] [Bet] in
theorem backK_some {m : Nat} {op : Op} {fr : AF} {v : AV} {k : Option β} : ∀ (hist : List (Nat × AH)) (n : Nat), HistOK T n hist → backK E m op fr v hist k = some r →
    k = some r ∧ ∀ e, e < n → (T.kd e).isEff = true → (∀ e', e ≤ e' → e' < n → (T.kd e').isEff = true → bitB m e' = false) → ReadOK E op fr (T.al e) v
  | [], n, h, he => ⟨he, fun e e1 e2 => by rw [h e e1] at e2; cases e2⟩
  | (e0, α) :: rest, n, ⟨h1, h2, h3, h4, h5⟩, he => by
    have he' : ite_ (bitB m e0) k (sameRead E op fr v α (backK E m op fr v rest k)) = some r := he
    cases hb : bitB m e0 with
    | true =>
      rw [hb, ite_true_] at he'
      refine ⟨he', fun e e1 e2 e3 => ?_⟩
      rcases Nat.lt_or_ge e0 e with hlt | hge
      · rw [h4 e hlt e1] at e2; cases e2
      · rw [e3 e0 hge h1 h2] at hb; cases hb
    | false =>
      rw [hb, ite_false_] at he'
      obtain ⟨h6, h7⟩ := sameRead_some he'
      obtain ⟨h8, h9⟩ := backK_some rest e0 h5 h6
      refine ⟨h8, fun e e1 e2 e3 => ?_⟩
      rcases Nat.lt_trichotomy e e0 with hlt | heq | hgt
      · exact h9 e hlt e2 fun e' f1 f2 f3 => e3 e' f1 (by omega) f3
      · rw [heq, ← h3]; exact h7
      · rw [h4 e hgt e1] at e2; cases e2
omit [Val] [Bet] in
theorem wantK_split {os : List Oper} {fr : AF} {g : Option (Nat × Bool)} {yes no : Option β} (he : wantK os fr g yes no = some r) :
    (wantK os fr g (some true) (some false) = some true ∧ yes = some r) ∨ (wantK os fr g (some true) (some false) = some false ∧ no = some r) := by
  unfold wantK at he ⊢
  split at he
  · exact .inl ⟨rfl, he⟩
  · rename_i j b
    split at he
    · rename_i o ho
      split at he
      · rename_i t ht
        obtain ⟨x, h1, h2⟩ := getK_some he
        simp only [getK_eq, h1]
        split at h2
        · rename_i c
          rw [boolK_eq] at h2
          simp only [boolK_eq]
          cases b <;> cases c
          · exact .inl ⟨rfl, h2⟩
          · exact .inr ⟨rfl, h2⟩
          · exact .inr ⟨rfl, h2⟩
          · exact .inl ⟨rfl, h2⟩
        · exact .inr ⟨rfl, h2⟩
        · cases h2
      · cases he
    · cases he
omit [Val] [Bet] in
theorem putK_get {dst : Option Tmp} {fr : AF} {x : AV} {k : AF → Option β} (he : putK none fr dst x k = some r) : ∃ fr', k fr' = some r ∧ fr'.nt = fr.nt ∧ (∀ t, fr'.t.get t = if dst = some t then some x else fr.t.get t) ∧ ∀ t, dst = some t → t < fr.nt := by
  unfold putK at he
  cases dst with
  | none => exact ⟨fr, he, rfl, fun t => by simp, fun t h => by cases h⟩
  | some t =>
    simp only at he
    cases hb : Nat.blt t fr.nt with
    | false => rw [hb] at he; cases he
    | true =>
      rw [hb, ite_true_] at he
      obtain ⟨u, h1, h2⟩ := setK_some _ he
      refine ⟨_, h2, rfl, fun s => ?_, fun s hs => by cases hs; exact blt_true hb⟩
      show u.get s = _
      rw [h1 s]
      by_cases e : s = t
      · subst e; simp
      · rw [if_neg e, if_neg (by simp; exact fun h => e h.symm)]
end
end
end Go.Proofs.YtibmpjhffeinoaaGreat.Kx

namespace Go.Proofs.YtibmpjhffeinoaaGreat.Kx
open Go
variable [Val] [Bet]

noncomputable section
variable {X : Exe} {E : Env} {P : Program} {β : Type} {r : β}
variable {ih : Task → Option Res} {ops : Array Oper} {M : Nat → Nat} {base : Nat} {fr0 : AF} {α0 : AH} {T : TT} {n : Nat}

def PendOK (T : TT) (M : Nat → Nat) (base n : Nat) (pend : List (Nat × Nat × AO)) : Prop := ∀ q ∈ pend, q.1 < n ∧ q.2.1 = base + q.1 ∧ T.kd q.1 = .made q.2.2 ∧ ∀ e, e < n → (T.kd e).isEff = true → bitB (M e) q.1 = false
def RdsOK (T : TT) (ops : Array Oper) (n : Nat) (rds : List (Nat × Op × AF × AV)) : Prop := ∀ i o, i < n → ops[i]? = some o → T.kd i = .read → (i, o.op, T.fr i, T.x i) ∈ rds
/-- What is left for the end: blocks that no effect knows. -/
def EndOK (T : TT) (M : Nat → Nat) (base N : Nat) (hf : AH) : Prop := hf.nx = (T.al N).nx ∧ ∀ m a, hf.get m = some a → (T.al N).get m = some a ∨ ∃ j, j < N ∧ T.kd j = .made a ∧ (∀ e, e < N → (T.kd e).isEff = true → bitB (M e) j = false) ∧ m = base + j
section
variable {T' : TT}
omit [Val] [Bet] in
theorem PendOK.mono {pend : List (Nat × Nat × AO)} (h : PendOK T M base n pend) (hk : ∀ j, j < n → T'.kd j = T.kd j) (hn : (T'.kd n).isEff = false ∨ ∀ q ∈ pend, bitB (M n) q.1 = false) : PendOK T' M base (n + 1) pend := by
  intro q hq
  obtain ⟨h1, h2, h3, h4⟩ := h q hq
  refine ⟨by omega, h2, by rw [hk _ h1]; exact h3, fun e e1 e2 => ?_⟩
  rcases Nat.lt_or_ge e n with hlt | hge
  · exact h4 e hlt (by rw [← hk e hlt]; exact e2)
  · have : e = n := by omega
    subst this
    rcases hn with hn | hn
    · rw [hn] at e2; cases e2
    · exact hn q hq
omit [Val] [Bet] in
theorem RdsOK.mono {rds : List (Nat × Op × AF × AV)} (h : RdsOK T ops n rds) (hk : ∀ j, j < n → T'.kd j = T.kd j) (hf : ∀ j, j ≤ n → T'.fr j = T.fr j) (hx : ∀ j, j < n → T'.x j = T.x j) (hn : T'.kd n ≠ .read) : RdsOK T' ops (n + 1) rds := by
  intro i o hi ho hk'
  rcases Nat.lt_or_ge i n with hlt | hge
  · rw [hf i (by omega), hx i hlt]; exact h i o hlt ho (by rw [← hk i hlt]; exact hk')
  · have : i = n := by omega
    subst this
    exact absurd hk' hn
omit [Val] [Bet] in
theorem HistOK.mono {hist : List (Nat × AH)} (h : HistOK T n hist) (hk : ∀ j, j < n → T'.kd j = T.kd j) (ha : ∀ j, j < n → T'.al j = T.al j) (hn : (T'.kd n).isEff = false) : HistOK T' (n + 1) hist := by
  have h' := HistOK.congr h hk ha
  cases hist with
  | nil =>
    intro e he
    rcases Nat.lt_or_ge e n with hlt | hge
    · exact h' e hlt
    · have : e = n := by omega
      subst this; exact hn
  | cons q rest =>
    obtain ⟨e, α⟩ := q
    obtain ⟨h1, h2, h3, h4, h5⟩ := h'
    refine ⟨by omega, h2, h3, fun e' e1 e2 => ?_, h5⟩
    rcases Nat.lt_or_ge e' n with hlt | hge
    · exact h4 e' e1 hlt
    · have : e' = n := by omega
      subst this; exact hn
end
omit [Val] [Bet] in
/-- Heaps between effects are the same. -/
theorem Facts.alEq (F : Facts X ih ops M base fr0 α0 T n) (hn : n ≤ ops.size) {p q : Nat} (hpq : p ≤ q) (hq : q ≤ n) (he : ∀ e, p ≤ e → e < q → (T.kd e).isEff = false) : T.al q = T.al p := by
  induction q with
  | zero => have : p = 0 := by omega
            rw [this]
  | succ q rec =>
    rcases Nat.lt_or_ge q p with hlt | hge
    · have : p = q + 1 := by omega
      rw [this]
    · rw [(F.fact q ops[q] (by omega) (Array.getElem?_eq_getElem (by omega))).alS (he q hge (by omega))]
      exact rec hge (by omega) fun e e1 e2 => he e e1 (by omega)
omit [Val] [Bet] in
/-- Of the heaps ahead: a read that was checked. -/
theorem back_of (F : Facts X ih ops M base fr0 α0 T n) (hn : n ≤ ops.size) {m : Nat} {op : Op} {fr : AF} {v : AV} (h0 : ReadOK E op fr (T.al n) v)
    (hb : ∀ e, e < n → (T.kd e).isEff = true → (∀ e', e ≤ e' → e' < n → (T.kd e').isEff = true → bitB m e' = false) → ReadOK E op fr (T.al e) v) :
    ∀ j, j ≤ n → (∀ e, j ≤ e → e < n → (T.kd e).isEff = true → bitB m e = false) → ReadOK E op fr (T.al j) v := by
  intro j hj
  obtain ⟨k, hk⟩ : ∃ k, n = j + k := ⟨n - j, by omega⟩
  induction k generalizing j with
  | zero => intro _; have : j = n := by omega
            rw [this]; exact h0
  | succ k rec =>
    intro he
    cases hke : (T.kd j).isEff with
    | true => exact hb j (by omega) hke fun e' e1 e2 e3 => he e' e1 e2 e3
    | false =>
      have h1 := rec (j + 1) (by omega) (by omega) fun e e1 e2 e3 => he e (by omega) e2 e3
      have hje : ∀ e, j ≤ e → e < j + 1 → (T.kd e).isEff = false := fun e e1 e2 => by
        have : e = j := by omega
        rw [this]; exact hke
      rw [F.alEq hn (p := j) (q := j + 1) (by omega) (by omega) hje] at h1
      exact h1
omit [Val] [Bet] in
theorem drawOps_facts (HA : Ahead ops M) {ms0 : List Nat} (hM : M = getM ms0) : ∀ (rest : List Oper) (n : Nat) (ms : List Nat) (fr : AF) (h : AH) (s : DS) (k : AF → AH → Option β) (T : TT),
    ops.toList.drop n = rest → ms = ms0.drop n → n ≤ ops.size → Facts X ih ops M base fr0 α0 T n → fr = T.fr n → h = T.al n → PendOK T M base n s.pend → RdsOK T ops n s.rds → HistOK T n s.hist →
    drawOps X ih ops.toList base rest n ms fr h s k = some r → ∃ T' hf, Facts X ih ops M base fr0 α0 T' ops.size ∧ k (T'.fr ops.size) hf = some r ∧ EndOK T' M base ops.size hf := by
  intro rest
  induction rest with
  | nil =>
    intro n ms fr h s k T hd hms hn F hfr hh hP hR hH he
    have hnn : n = ops.size := by
      have := congrArg List.length hd
      simp at this
      omega
    subst hnn
    have he' : layK (fun _ => true) s.pend h (fun h _ => k fr h) = some r := he
    obtain ⟨h', l, h1, h2, h3, _⟩ := layK_some _ he'
    refine ⟨T, h', F, by rw [← hfr]; exact h1, by rw [h2, hh], fun m a hm => ?_⟩
    · rcases h3 m a hm with h4 | ⟨q, hq, _, rfl, rfl⟩
      · rw [← hh]; exact .inl h4
      · obtain ⟨q1, q2, q3, q4⟩ := hP q hq
        exact .inr ⟨q.1, q1, q3, q4, q2⟩
  | cons o rest rec =>
    intro n ms fr h s k T hd hms hn F hfr hh hP hR hH he
    subst hfr
    subst hh
    have hlt : n < ops.size := by
      have := congrArg List.length hd
      simp at this
      omega
    have hon : ops[n]? = some o := by
      have := congrArg (·[0]?) hd
      simp only [List.getElem?_drop, Nat.add_zero, List.getElem?_cons_zero] at this
      rw [← this, Array.getElem?_toList]
    have hd' : ops.toList.drop (n + 1) = rest := by rw [← List.drop_drop, hd]; rfl
    cases hmsc : ms with
    | nil => rw [hmsc] at he; cases he
    | cons m ms' =>
      rw [hmsc] at he
      have hmn : M n = m := by
        rw [hM]
        unfold getM
        have := congrArg (·[0]?) (hms.symm.trans hmsc)
        simp only [List.getElem?_drop, Nat.add_zero, List.getElem?_cons_zero] at this
        rw [this]; rfl
      have hms' : ms' = ms0.drop (n + 1) := by rw [← List.drop_drop, ← hms, hmsc]; rfl
      have he' : natK (Nat.succ n) (fun i' => natK (Nat.add base n) fun id => wantK ops.toList (T.fr n) o.guard
          (drawStep X ih o n id m (T.fr n) (T.al n) s fun v h' s' => putK none (T.fr n) o.dst v fun fr' => drawOps X ih ops.toList base rest i' ms' fr' h' s' k)
          (putK none (T.fr n) o.dst (.tup []) fun fr' => drawOps X ih ops.toList base rest i' ms' fr' (T.al n) s k)) = some r := he
      rw [natK_eq, natK_eq] at he'
      -- one more operation
      have go : ∀ (v : AV) (α' : AH) (s' : DS) (kk : Kd), wantK ops.toList (T.fr n) o.guard (some true) (some false) = some kk.wants → Fact X ih base M T.kd n o (T.fr n) (T.al n) α' v kk →
          (kk = .read → ∀ j, j ≤ n → (∀ e, j ≤ e → e < n → (T.kd e).isEff = true → bitB (M n) e = false) → ReadOK X.E o.op (T.fr n) (T.al j) v) →
          (kk.isEff = true → ∀ i oi, i < n → ops[i]? = some oi → T.kd i = .read → bitB (M n) i = false → ReadOK X.E oi.op (T.fr i) α' (T.x i)) →
          (∀ T' : TT, (∀ j, j < n → T'.kd j = T.kd j) → (∀ j, j ≤ n → T'.fr j = T.fr j) → (∀ j, j < n → T'.x j = T.x j) → (∀ j, j ≤ n → T'.al j = T.al j) → T'.kd n = kk → T'.x n = v → PendOK T' M base (n + 1) s'.pend ∧ RdsOK T' ops (n + 1) s'.rds ∧ HistOK T' (n + 1) s'.hist) →
          putK none (T.fr n) o.dst v (fun fr' => drawOps X ih ops.toList base rest (n + 1) ms' fr' α' s' k) = some r →
          ∃ T' hf, Facts X ih ops M base fr0 α0 T' ops.size ∧ k (T'.fr ops.size) hf = some r ∧ EndOK T' M base ops.size hf := by
        intro v α' s' kk g1 g2 g3 g4 g5 g6
        obtain ⟨fr', p1, p2, p3, p4⟩ := putK_get g6
        have F' := F.snoc hon (fr' := fr') (α' := α') (x := v) (k := kk) ⟨p2, p3, p4⟩ g1 g2 g3 g4
        obtain ⟨q1, q2, q3⟩ := g5 ⟨upd T.fr (n + 1) fr', upd T.al (n + 1) α', upd T.x n v, upd T.kd n kk⟩ (fun j hj => upd_ne _ _ (by omega)) (fun j hj => upd_ne _ _ (by omega)) (fun j hj => upd_ne _ _ (by omega)) (fun j hj => upd_ne _ _ (by omega)) (upd_eq _ _ _) (upd_eq _ _ _)
        exact rec (n + 1) ms' fr' α' s' k _ hd' hms' hlt F' (upd_eq _ _ _).symm (upd_eq _ _ _).symm q1 q2 q3 p1
      rcases wantK_split he' with ⟨w1, w2⟩ | ⟨w1, w2⟩
      · unfold drawStep at w2
        split at w2
        · rename_i hc
          obtain ⟨v, h1, h2, h3⟩ := thenP_some w2
          refine go v (T.al n) s .pure w1 (.pure hc ⟨h1, h2⟩ rfl) (fun h => by cases h) (fun h => by cases h) (fun T' e1 e2 e3 e4 e5 e6 => ?_) h3
          exact ⟨hP.mono e1 (.inl (by rw [e5]; rfl)), hR.mono e1 e2 e3 (by rw [e5]; simp), hH.mono e1 (fun j hj => e4 j (by omega)) (by rw [e5]; rfl)⟩
        · rename_i hc
          obtain ⟨v, h1, h2, h3⟩ := thenP_some w2
          obtain ⟨h4, h5⟩ := backK_some _ n hH h3
          refine go v (T.al n) _ .read w1 (.read hc rfl) (fun _ => ?_) (fun h => by cases h) (fun T' e1 e2 e3 e4 e5 e6 => ?_) h4
          · rw [hmn]
            exact back_of F hn ⟨h1, h2⟩ h5
          · refine ⟨hP.mono e1 (.inl (by rw [e5]; rfl)), fun i oi hi hoi hk => ?_, hH.mono e1 (fun j hj => e4 j (by omega)) (by rw [e5]; rfl)⟩
            rcases Nat.lt_or_ge i n with hin | hin
            · rw [e2 i (by omega), e3 i hin]
              exact List.mem_cons_of_mem _ (hR i oi hin hoi (by rw [← e1 i hin]; exact hk))
            · have : i = n := by omega
              subst this
              rw [hon] at hoi
              cases hoi
              rw [e2 i (by omega), e6]
              exact List.mem_cons_self
        · rename_i hc
          obtain ⟨ao, v, h1, h2⟩ := thenA_some w2
          have hfz : ao.isF = false := by
            cases hf : ao.isF with
            | false => rfl
            | true => rw [hf] at h2; cases h2
          rw [hfz, ite_false_] at h2
          refine go v (T.al n) _ (.made ao) w1 (.made ao h1 rfl hfz) (fun h => by cases h) (fun h => by cases h) (fun T' e1 e2 e3 e4 e5 e6 => ?_) h2
          refine ⟨fun q hq => ?_, hR.mono e1 e2 e3 (by rw [e5]; simp), hH.mono e1 (fun j hj => e4 j (by omega)) (by rw [e5]; rfl)⟩
          cases hq with
          | head =>
            refine ⟨Nat.lt_succ_self n, rfl, e5, fun e f1 f2 => ?_⟩
            rcases Nat.lt_or_ge e n with hlt' | hge
            · rw [e1 e hlt'] at f2
              cases hb : bitB (M e) n with
              | false => rfl
              | true =>
                have := HA.bitLt e ops[e] n (Array.getElem?_eq_getElem (by omega)) hb
                omega
            · have : e = n := by omega
              subst this
              rw [e5] at f2
              cases f2
          | tail _ hq => exact hP.mono e1 (.inl (by rw [e5]; rfl)) q hq
        · rename_i hc
          cases hl : lastEffB m s.hist with
          | false => rw [hl] at w2; cases w2
          | true =>
            rw [hl, ite_true_] at w2
            obtain ⟨h0, l, h1, h2, h3, h4⟩ := layK_some _ w2
            obtain ⟨v, h5, h6, h7⟩ := thenP_some h1
            obtain ⟨h8, h9⟩ := againK_some _ h7
            have hall : ∀ e, e < n → (T.kd e).isEff = true → bitB (M n) e = true := by
              intro e e1 e2
              cases hh : s.hist with
              | nil => rw [hh] at hH; rw [hH e e1] at e2; cases e2
              | cons q rest' =>
                obtain ⟨e0, α⟩ := q
                rw [hh] at hH hl
                obtain ⟨j1, j2, j3, j4, j5⟩ := hH
                have hl' : bitB m e0 = true := hl
                rw [← hmn] at hl'
                rcases Nat.lt_trichotomy e e0 with hlt' | heq | hgt
                · have he0 := F.fact e0 ops[e0] j1 (Array.getElem?_eq_getElem (by omega))
                  refine HA.trans n o e0 e hon hl' ?_
                  generalize hkk : T.kd e0 = kk at he0
                  cases he0 with
                  | eff h0 _ _ h3 _ => exact h3 e hlt' e2
                  | skip => rw [hkk] at j2; cases j2
                  | pure => rw [hkk] at j2; cases j2
                  | read => rw [hkk] at j2; cases j2
                  | made => rw [hkk] at j2; cases j2
                · rw [heq]; exact hl'
                · rw [j4 e hgt e1] at e2; cases e2
            refine go v h5 ⟨l, s.rds, (n, T.al n) :: s.hist⟩ (.eff h0) w1 (.eff h0 h6 h2 hall fun mm aa hm => ?_) (fun h => by cases h) (fun _ i oi hi hoi hk hb => ?_) (fun T' e1 e2 e3 e4 e5 e6 => ?_) h8
            · rcases h3 mm aa hm with h10 | ⟨q, hq, h10, rfl, rfl⟩
              · exact .inl h10
              · obtain ⟨q1, q2, q3, q4⟩ := hP q hq
                exact .inr ⟨q.1, q1, q3, by rw [hmn]; exact h10, q4, q2⟩
            · exact h9 _ (hR i oi hi hoi hk) (by rw [← hmn]; exact hb)
            · refine ⟨PendOK.mono (T := T) (fun q hq => hP q (h4 q hq).1) e1 (.inr fun q hq => by rw [hmn]; exact (h4 q hq).2), hR.mono e1 e2 e3 (by rw [e5]; simp), Nat.lt_succ_self n, by rw [e5]; rfl, (e4 n (Nat.le_refl _)).symm, fun e' f1 f2 => by omega, HistOK.congr hH e1 fun j hj => e4 j (by omega)⟩
      · refine go (.tup []) (T.al n) s .skip w1 (.skip rfl rfl) (fun h => by cases h) (fun h => by cases h) (fun T' e1 e2 e3 e4 e5 e6 => ?_) w2
        refine ⟨hP.mono e1 (.inl (by rw [e5]; rfl)), hR.mono e1 e2 e3 (by rw [e5]; simp), hH.mono e1 (fun j hj => e4 j (by omega)) (by rw [e5]; rfl)⟩
end
end Go.Proofs.YtibmpjhffeinoaaGreat.Kx

namespace Go.Proofs.YtibmpjhffeinoaaGreat.Kx
open Go
variable [Val] [Bet]

noncomputable section
variable {X : Exe} {E : Env} {P : Program} {β : Type} {r : β}

/-! ### Tries out of functions -/
def Tr.ofF {α : Type} : Nat → (Nat → Option α) → Tr α
  | 0, f => match f 0 with
    | some v => .l v
    | none => .e
  | d + 1, f => .n (Tr.ofF d fun n => f (2 * n)) (Tr.ofF d fun n => f (2 * n + 1))
omit [Val] [Bet] in
theorem Tr.get_ofF {α : Type} : ∀ (d : Nat) (f : Nat → Option α) (m : Nat), (Tr.ofF d f).get m = if m < 2 ^ d then f m else none := by
  intro d
  induction d with
  | zero =>
    intro f m
    unfold Tr.ofF
    cases hf : f 0 with
    | none =>
      unfold Tr.get
      by_cases hm : m < 2 ^ 0
      · rw [if_pos hm]; simp at hm; rw [hm, hf]
      · rw [if_neg hm]
    | some v =>
      unfold Tr.get
      by_cases hm : m < 2 ^ 0
      · rw [if_pos hm]; simp at hm; rw [hm, hf]; simp
      · rw [if_neg hm]; simp at hm; rw [if_neg hm]
  | succ d ih =>
    intro f m
    unfold Tr.ofF
    rw [Tr.get]
    have hp : 2 ^ (d + 1) = 2 * 2 ^ d := by rw [Nat.pow_succ]; omega
    by_cases h2 : m % 2 = 0
    · rw [if_pos h2, ih]
      by_cases hm : m < 2 ^ (d + 1)
      · rw [if_pos hm, if_pos (by omega), show 2 * (m / 2) = m from by omega]
      · rw [if_neg hm, if_neg (by omega)]
    · rw [if_neg h2, ih]
      by_cases hm : m < 2 ^ (d + 1)
      · rw [if_pos hm, if_pos (by omega), show 2 * (m / 2) + 1 = m from by omega]
      · rw [if_neg hm, if_neg (by omega)]
omit [Val] [Bet] in
theorem lt_pow (n : Nat) : n < 2 ^ n := Nat.lt_two_pow_self
open Classical in
omit [Val] [Bet] in
theorem exAH (nx : Nat) (Pd : Nat → AO → Prop) (hu : ∀ m a b, Pd m a → Pd m b → a = b) (hb : ∀ m a, Pd m a → m < nx) (hd : ∀ m a, Pd m a → a ≠ .dead) : ∃ H : AH, H.nx = nx ∧ ∀ m a, H.get m = some a ↔ Pd m a := by
  refine ⟨⟨nx, Tr.ofF nx fun m => if h : ∃ a, Pd m a then some (Classical.choose h) else none⟩, rfl, fun m a => ?_⟩
  have hg : (Tr.ofF nx fun m => if h : ∃ a, Pd m a then some (Classical.choose h) else none).get m = some a ↔ Pd m a := by
    rw [Tr.get_ofF]
    by_cases hm : m < 2 ^ nx
    · rw [if_pos hm]
      by_cases he : ∃ a, Pd m a
      · rw [dif_pos he]
        constructor
        · intro h; cases h; exact Classical.choose_spec he
        · intro h; rw [hu m _ _ (Classical.choose_spec he) h]
      · rw [dif_neg he]
        constructor
        · intro h; cases h
        · intro h; exact absurd ⟨a, h⟩ he
    · rw [if_neg hm]
      constructor
      · intro h; cases h
      · intro h
        have := hb m a h
        have := lt_pow nx
        omega
  constructor
  · intro h; exact hg.1 (AH.of_get h).1
  · intro h; exact AH.get_of (hg.2 h) (hd m a h)

/-! ### The state -/
variable {ih : Task → Option Res} {ops : Array Oper} {M : Nat → Nat} {base : Nat} {fr0 : AF} {α0 : AH} {T : TT}
def PendAt (T : TT) (M : Nat → Nat) (base N : Nat) (L : Nat → Bool) (m : Nat) (a : AO) : Prop := ∃ j, j < N ∧ L j = true ∧ T.kd j = .made a ∧ (∀ e, e < N → (T.kd e).isEff = true → L e = true → bitB (M e) j = false) ∧ m = base + j
structure HInv (T : TT) (M : Nat → Nat) (base N : Nat) (φ0 : Phi) (hs : AH) (w0 : World) (L : Nat → Bool) (φ : Phi) (w : World) (p : Nat) (H : AH) : Prop where
  ple : p ≤ N
  cut : ∀ e, e < N → (T.kd e).isEff = true → (L e = true ↔ e < p)
  nx : H.nx = (T.al p).nx
  get : ∀ m a, H.get m = some a ↔ (T.al p).get m = some a ∨ PendAt T M base N L m a
  r : R φ H w
  pend : ∀ m a, PendAt T M base N L m a → (T.al p).get m = none ∧ a ≠ .dead ∧ a.isF = false
  room : base + N ≤ (T.al p).nx
  st : St0 φ0 hs w0 φ H w
  res : ∀ j, j < N → L j = false → φ (base + j) = none
  old : ∀ i, i < base → φ i = φ0 i
structure FInv (T : TT) (ops : Array Oper) (fr0 : AF) (L : Nat → Bool) (φ : Phi) (tmps : Array Value) : Prop where
  size : tmps.size = fr0.nt
  one : ∀ (j : Nat) (o : Oper) t, ops[j]? = some o → L j = true → o.dst = some t → ∃ v, tmps[t]? = some v ∧ VR φ (T.x j) v
  two : ∀ t x, fr0.t.get t = some x → (∀ (j : Nat) (o : Oper), ops[j]? = some o → L j = true → o.dst ≠ some t) → ∃ v, tmps[t]? = some v ∧ VR φ x v
def Closed (ops : Array Oper) (L : Nat → Bool) : Prop := ∀ (i : Nat) (o : Oper), ops[i]? = some o → L i = true → ∀ e ∈ o.after, Region.binds .any e = true → L e.on = true
section
variable {L : Nat → Bool} {φ φ' φ0 : Phi} {w w' w0 : World} {hs H : AH} {p i : Nat} {o : Oper} {a : Act}
omit [Val] [Bet] in
theorem mask_in (HA : Ahead ops M) (hL : Closed ops L) : ∀ (i : Nat) (o : Oper) (j : Nat), ops[i]? = some o → (∀ e ∈ o.after, Region.binds .any e = true → L e.on = true) → bitB (M i) j = true → L j = true := by
  intro i
  induction i using Nat.strongRecOn with
  | _ i rec =>
    intro o j ho hr hb
    obtain ⟨e, he, hbe, h1⟩ := HA.mask i o j ho hb
    rcases h1 with rfl | h1
    · exact hr e he hbe
    · have hlt := HA.edge i o ho e he hbe
      have hin : i < ops.size := (Array.getElem?_eq_some_iff.1 ho).1
      have hoe : ops[e.on]? = some ops[e.on] := Array.getElem?_eq_getElem (by omega)
      exact rec e.on hlt _ j hoe (fun e' he' hb' => hL e.on _ hoe (hr e he hbe) e' he' hb') h1
omit [Val] [Bet] in
theorem closed_upd (hL : Closed ops L) (ho : ops[i]? = some o) (hr : ∀ e ∈ o.after, Region.binds .any e = true → L e.on = true) : Closed ops (upd L i true) := by
  intro j oj hoj hj e he hb
  have hLe : L e.on = true := by
    by_cases hji : j = i
    · subst hji
      rw [ho] at hoj
      cases hoj
      exact hr e he hb
    · rw [upd_ne _ _ hji] at hj
      exact hL j oj hoj hj e he hb
  by_cases hei : e.on = i
  · rw [hei, upd_eq]
  · rw [upd_ne _ _ hei]; exact hLe
theorem HInv.still (h : HInv T M base ops.size φ0 hs w0 L φ w p H) (hk : ∀ ao, T.kd i ≠ .made ao) (he : (T.kd i).isEff = false) : HInv T M base ops.size φ0 hs w0 (upd L i true) φ w p H := by
  have hl : ∀ e, (T.kd e).isEff = true → upd L i true e = L e := fun e h1 => upd_ne _ _ fun e' => by rw [e', he] at h1; cases h1
  have hp : ∀ m a, PendAt T M base ops.size (upd L i true) m a ↔ PendAt T M base ops.size L m a := by
    intro m a
    constructor
    · rintro ⟨j, h1, h2, h3, h4, h5⟩
      have hji : j ≠ i := fun e => hk a (by rw [← e]; exact h3)
      exact ⟨j, h1, by rw [upd_ne _ _ hji] at h2; exact h2, h3, fun e e1 e2 e3 => h4 e e1 e2 (by rw [hl e e2]; exact e3), h5⟩
    · rintro ⟨j, h1, h2, h3, h4, h5⟩
      have hji : j ≠ i := fun e => hk a (by rw [← e]; exact h3)
      exact ⟨j, h1, by rw [upd_ne _ _ hji]; exact h2, h3, fun e e1 e2 e3 => h4 e e1 e2 (by rw [← hl e e2]; exact e3), h5⟩
  refine ⟨h.ple, fun e h1 h2 => by rw [hl e h2]; exact h.cut e h1 h2, h.nx, fun m a => by rw [hp]; exact h.get m a, h.r, fun m a hm => h.pend m a ((hp m a).1 hm), h.room, h.st, fun j hj hf => ?_, h.old⟩
  by_cases hji : j = i
  · rw [hji, upd_eq] at hf; cases hf
  · rw [upd_ne _ _ hji] at hf; exact h.res j hj hf
omit [Bet] in
theorem FInv.put (HA : Ahead ops M) (h : FInv T ops fr0 L φ a.tmps) (hx : Ext φ φ') (ho : ops[i]? = some o) (hn : ∀ t, o.dst = some t → t < fr0.nt) {v : Value} (hv : VR φ' (T.x i) v) : FInv T ops fr0 (upd L i true) φ' (a.put o.dst v).tmps := by
  have hother : ∀ t, o.dst ≠ some t → (a.put o.dst v).tmps[t]? = a.tmps[t]? := by
    intro t ht
    cases hd : o.dst with
    | none => rfl
    | some s =>
      show (a.tmps.setIfInBounds s v)[t]? = _
      rw [Array.getElem?_setIfInBounds, if_neg fun e => ht (by rw [hd, e])]
  refine ⟨?_, fun j oj t hoj hj ht => ?_, fun t x hfx hno => ?_⟩
  · rw [← h.size]
    cases o.dst with
    | none => rfl
    | some s => exact Array.size_setIfInBounds
  · by_cases hji : j = i
    · subst hji
      rw [ho] at hoj
      cases hoj
      refine ⟨v, ?_, hv⟩
      rw [ht]
      show (a.tmps.setIfInBounds t v)[t]? = _
      rw [Array.getElem?_setIfInBounds, if_pos rfl, if_pos (by rw [h.size]; exact hn t ht)]
    · rw [upd_ne _ _ hji] at hj
      obtain ⟨u, h1, h2⟩ := h.one j oj t hoj hj ht
      refine ⟨u, ?_, h2.ext hx⟩
      rw [hother t fun e => ?_]
      · exact h1
      · rcases Nat.lt_or_ge j i with hlt | hge
        · exact HA.dst j i oj o t hoj ho hlt ht e
        · exact HA.dst i j o oj t ho hoj (by omega) e ht
  · have hi : o.dst ≠ some t := hno i o ho (upd_eq _ _ _)
    obtain ⟨u, h1, h2⟩ := h.two t x hfx fun j oj hoj hj => by
      refine hno j oj hoj ?_
      by_cases hji : j = i
      · rw [hji, upd_eq]
      · rw [upd_ne _ _ hji]; exact hj
    exact ⟨u, by rw [hother t hi]; exact h1, h2.ext hx⟩
omit [Val] [Bet] in
theorem frGet (F : Facts X ih ops M base fr0 α0 T ops.size) : ∀ i, i ≤ ops.size → (T.fr i).nt = fr0.nt ∧ ∀ t, (∃ (j : Nat) (o : Oper), j < i ∧ ops[j]? = some o ∧ o.dst = some t ∧ (T.fr i).t.get t = some (T.x j)) ∨
    ((∀ (j : Nat) (o : Oper), j < i → ops[j]? = some o → o.dst ≠ some t) ∧ (T.fr i).t.get t = fr0.t.get t) := by
  intro i
  induction i with
  | zero => intro _; rw [F.fr0]; exact ⟨rfl, fun t => .inr ⟨fun j o hj => by omega, rfl⟩⟩
  | succ i rec =>
    intro hi
    obtain ⟨h1, h2⟩ := rec (by omega)
    have ho : ops[i]? = some ops[i] := Array.getElem?_eq_getElem (by omega)
    obtain ⟨f1, f2, f3⟩ := F.frS i _ (by omega) ho
    refine ⟨f1.trans h1, fun t => ?_⟩
    rw [f2 t]
    by_cases hd : ops[i].dst = some t
    · rw [if_pos hd]
      exact .inl ⟨i, _, Nat.lt_succ_self i, ho, hd, rfl⟩
    · rw [if_neg hd]
      rcases h2 t with ⟨j, o, j1, j2, j3, j4⟩ | ⟨j1, j2⟩
      · exact .inl ⟨j, o, by omega, j2, j3, j4⟩
      · refine .inr ⟨fun j o hj hoj => ?_, j2⟩
        rcases Nat.lt_or_ge j i with hlt | hge
        · exact j1 j o hlt hoj
        · have : j = i := by omega
          subst this
          rw [ho] at hoj
          cases hoj
          exact hd
omit [Bet] in
/-- What a ready operation sees is what the executor saw. -/
theorem sees (HA : Ahead ops M) (F : Facts X ih ops M base fr0 α0 T ops.size) (hL : Closed ops L) (hFI : FInv T ops fr0 L φ a.tmps) (ho : ops[i]? = some o) (hi : L i = false) (hr : ∀ e ∈ o.after, Region.binds .any e = true → L e.on = true) :
    ∀ t, (t ∈ tmpsOf o.op ∨ ∃ j b oj, o.guard = some (j, b) ∧ ops[j]? = some oj ∧ oj.dst = some t) → ∀ x, (T.fr i).t.get t = some x → ∃ v, a.tmps[t]? = some v ∧ VR φ x v := by
  intro t ht x hx
  have hin : i < ops.size := (Array.getElem?_eq_some_iff.1 ho).1
  have hwr : ∀ (j : Nat) (oj : Oper), ops[j]? = some oj → oj.dst = some t → bitB (M i) j = true ∨ bitB (M j) i = true ∨ i = j := by
    intro j oj hoj hdj
    rcases ht with ht | ⟨g, b, og, hg, hog, hdg⟩
    · exact HA.reads i o ho t ht j oj hoj hdj
    · have hgj : g = j := by
        rcases Nat.lt_trichotomy g j with hlt | heq | hgt
        · exact absurd hdj (HA.dst g j og oj t hog hoj hlt hdg)
        · exact heq
        · exact absurd hdg (HA.dst j g oj og t hoj hog hgt hdj)
      subst hgj
      exact .inl (HA.guard i o g b ho hg)
  rcases (frGet F i (by omega)).2 t with ⟨j, oj, j1, j2, j3, j4⟩ | ⟨j1, j2⟩
  · rw [j4] at hx
    cases hx
    rcases hwr j oj j2 j3 with h1 | h1 | h1
    · exact hFI.one j oj t j2 (mask_in HA hL i o j ho hr h1) j3
    · have := HA.bitLt j oj i j2 h1; omega
    · omega
  · rw [j2] at hx
    refine hFI.two t x hx fun j oj hoj hj hdj => ?_
    rcases hwr j oj hoj hdj with h1 | h1 | h1
    · exact j1 j oj (HA.bitLt i o j ho h1) hoj hdj
    · have := mask_in HA hL j oj i hoj (hL j oj hoj hj) h1
      rw [hi] at this
      cases this
    · subst h1
      rw [hi] at hj
      cases hj
omit [Val] [Bet] in
theorem wantK_congr {os : List Oper} {fr fr' : AF} {g : Option (Nat × Bool)} {yes no : Option β} (h : ∀ j b oj t, g = some (j, b) → nthO os j = some oj → oj.dst = some t → fr.t.get t = fr'.t.get t) : wantK os fr g yes no = wantK os fr' g yes no := by
  unfold wantK
  cases g with
  | none => rfl
  | some q =>
    obtain ⟨j, b⟩ := q
    simp only
    cases ho : nthO os j with
    | none => rfl
    | some oj =>
      simp only
      cases hd : oj.dst with
      | none => rfl
      | some t => simp only [getK_eq, h j b oj t rfl ho hd]
open Classical in
omit [Bet] in
/-- The frame of a ready operation. -/
theorem frame_of (HA : Ahead ops M) (F : Facts X ih ops M base fr0 α0 T ops.size) (hL : Closed ops L) (hFI : FInv T ops fr0 L φ a.tmps) (ho : ops[i]? = some o) (hi : L i = false) (hr : ∀ e ∈ o.after, Region.binds .any e = true → L e.on = true) :
    ∃ fr, FR φ fr a.tmps ∧ Agree (T.fr i) fr (tmpsOf o.op) ∧ (Region.wanted o (yielded ops a.tmps) = (T.kd i).wants) := by
  have hin : i < ops.size := (Array.getElem?_eq_some_iff.1 ho).1
  have hsee := sees HA F hL hFI ho hi hr
  let pr : Nat → Prop := fun t => t ∈ tmpsOf o.op ∨ ∃ j b oj, o.guard = some (j, b) ∧ ops[j]? = some oj ∧ oj.dst = some t
  let fr : AF := ⟨fr0.nt, Tr.ofF fr0.nt fun t => if pr t then (T.fr i).t.get t else none⟩
  have hget : ∀ t, pr t → (T.fr i).t.get t = fr.t.get t := by
    intro t ht
    show _ = (Tr.ofF fr0.nt fun t => if pr t then (T.fr i).t.get t else none).get t
    rw [Tr.get_ofF, if_pos ht]
    cases hx : (T.fr i).t.get t with
    | none => simp
    | some x =>
      obtain ⟨v, h1, _⟩ := hsee t ht x hx
      have h2 := (Array.getElem?_eq_some_iff.1 h1).1
      rw [hFI.size] at h2
      have := lt_pow fr0.nt
      rw [if_pos (by omega)]
  have hFR : FR φ fr a.tmps := by
    refine ⟨hFI.size, fun t x hx => ?_⟩
    have hx' : (Tr.ofF fr0.nt fun t => if pr t then (T.fr i).t.get t else none).get t = some x := hx
    rw [Tr.get_ofF] at hx'
    split at hx'
    · split at hx'
      · exact hsee t ‹_› x hx'
      · cases hx'
    · cases hx'
  refine ⟨fr, hFR, fun t ht => hget t (.inl ht), ?_⟩
  have hw := F.want i o hin ho
  rw [wantK_congr (fr' := fr) fun j b oj t hg hn hd => hget t (.inr ⟨j, b, oj, hg, by rw [nthO_eq] at hn; rw [← Array.getElem?_toList]; exact hn, hd⟩)] at hw
  rcases wantK_some hFR hw with ⟨h1, h2⟩ | ⟨h1, h2⟩
  · rw [h1]; simpa using h2
  · rw [h1]; simpa using h2
end
end
end Go.Proofs.YtibmpjhffeinoaaGreat.Kx

namespace Go.Proofs.YtibmpjhffeinoaaGreat.Kx
open Go
variable [Val] [Bet]

noncomputable section
variable {X : Exe} {E : Env} {P : Program} {β : Type} {r : β}
variable {ih : Task → Option Res} {ops : Array Oper} {M : Nat → Nat} {base : Nat} {fr0 : AF} {α0 : AH} {T : TT}
variable {L : Nat → Bool} {φ φ' φ0 : Phi} {w w' w0 : World} {hs H : AH} {p i N : Nat} {o : Oper} {a : Act}

omit [Val] [Bet] in
theorem PendAt.uniq {m : Nat} {a b : AO} (h : PendAt T M base N L m a) (h' : PendAt T M base N L m b) : a = b := by
  obtain ⟨j, _, _, h1, _, h2⟩ := h
  obtain ⟨k, _, _, h3, _, h4⟩ := h'
  have : j = k := by omega
  subst this
  rw [h1] at h3
  cases h3
  rfl
theorem HInv.made (h : HInv T M base N φ0 hs w0 L φ w p H) (hi : i < N) (hLi : L i = false) {ao : AO} (hk : T.kd i = .made ao) (hfz : ao.isF = false) (hno : ∀ e, e < N → (T.kd e).isEff = true → L e = true → bitB (M e) i = false) {ob : Obj} {z : Nat}
    (hor : OR (φ.upd (base + i) (w.heap.size, 0, z)) (0, z) ao ob) : ∃ H', HInv T M base N φ0 hs w0 (upd L i true) (φ.upd (base + i) (w.heap.size, 0, z)) (w.alloc ob) p H' := by
  have hf := h.res i hi hLi
  have hde : ao ≠ .dead := by rintro rfl; exact hor
  have hl : ∀ e, (T.kd e).isEff = true → upd L i true e = L e := fun e h1 => upd_ne _ _ fun e' => by rw [e', hk] at h1; cases h1
  have hp : ∀ m a, PendAt T M base N (upd L i true) m a ↔ PendAt T M base N L m a ∨ (m = base + i ∧ a = ao) := by
    intro m a
    constructor
    · rintro ⟨j, h1, h2, h3, h4, h5⟩
      by_cases hji : j = i
      · subst hji
        rw [hk] at h3
        cases h3
        exact .inr ⟨h5, rfl⟩
      · exact .inl ⟨j, h1, by rw [upd_ne _ _ hji] at h2; exact h2, h3, fun e e1 e2 e3 => h4 e e1 e2 (by rw [hl e e2]; exact e3), h5⟩
    · rintro (⟨j, h1, h2, h3, h4, h5⟩ | ⟨rfl, rfl⟩)
      · refine ⟨j, h1, ?_, h3, fun e e1 e2 e3 => h4 e e1 e2 (by rw [← hl e e2]; exact e3), h5⟩
        by_cases hji : j = i
        · rw [hji, upd_eq]
        · rw [upd_ne _ _ hji]; exact h2
      · exact ⟨i, hi, upd_eq _ _ _, hk, fun e e1 e2 e3 => hno e e1 e2 (by rw [← hl e e2]; exact e3), rfl⟩
  have hnew : H.get (base + i) = none := by
    cases hg : H.get (base + i) with
    | none => rfl
    | some b =>
      obtain ⟨g, d, o, h1, _⟩ := h.r.obj _ _ hg
      rw [hf] at h1
      cases h1
  have halp : (T.al p).get (base + i) = none := by
    cases hg : (T.al p).get (base + i) with
    | none => rfl
    | some b => rw [(h.get _ b).2 (.inl hg)] at hnew; cases hnew
  have hpend : ∀ m a, PendAt T M base N (upd L i true) m a → (T.al p).get m = none ∧ a ≠ .dead ∧ a.isF = false := by
    intro m a hm
    rcases (hp m a).1 hm with h1 | ⟨rfl, rfl⟩
    · exact h.pend m a h1
    · exact ⟨halp, hde, hfz⟩
  obtain ⟨H', hnx, hget⟩ := exAH (T.al p).nx (fun m a => (T.al p).get m = some a ∨ PendAt T M base N (upd L i true) m a)
    (fun m a b h1 h2 => by
      rcases h1 with h1 | h1 <;> rcases h2 with h2 | h2
      · rw [h1] at h2; cases h2; rfl
      · rw [(hpend m b h2).1] at h1; cases h1
      · rw [(hpend m a h1).1] at h2; cases h2
      · exact h1.uniq h2)
    (fun m a h1 => by
      rcases h1 with h1 | ⟨j, h1, _, _, _, rfl⟩
      · obtain ⟨g, d, o, h2, _⟩ := h.r.obj m a ((h.get m a).2 (.inl h1))
        rw [← h.nx]
        exact h.r.dom _ _ h2
      · have := h.room; omega)
    (fun m a h1 => by
      rcases h1 with h1 | h1
      · exact (AH.of_get h1).2
      · exact (hpend m a h1).2.1)
  have hroom := h.room
  obtain ⟨r1, r2⟩ := h.r.newAt (h' := H') (w' := w.alloc ob) (i := base + i) (z := z) (ao := ao) (o := ob) hf (by rw [hnx]; omega) (by rw [hnx, h.nx]; exact Nat.le_refl _) rfl (fun m a hm => by
    rcases (hget m a).1 hm with h1 | h1
    · refine .inr ⟨fun e => ?_, (h.get m a).2 (.inl h1)⟩
      rw [e, halp] at h1; cases h1
    · rcases (hp m a).1 h1 with h2 | h2
      · refine .inr ⟨fun e => ?_, (h.get m a).2 (.inr h2)⟩
        obtain ⟨j, _, j2, _, _, j5⟩ := h2
        have : j = i := by omega
        rw [this, hLi] at j2
        cases j2
      · exact .inl h2) hor rfl rfl rfl hfz
  refine ⟨H', h.ple, fun e h1 h2 => by rw [hl e h2]; exact h.cut e h1 h2, hnx, hget, r1, hpend, h.room, h.st.trans r2, fun j hj hf' => ?_, fun j hj => ?_⟩
  · by_cases hji : j = i
    · rw [hji, upd_eq] at hf'; cases hf'
    · rw [upd_ne _ _ hji] at hf'
      unfold Phi.upd
      rw [if_neg (by omega)]
      exact h.res j hj hf'
  · unfold Phi.upd
    rw [if_neg (by omega)]
    exact h.old j hj
/-- An effect: the heap behind it. -/
theorem HInv.eff (h : HInv T M base N φ0 hs w0 L φ w p H) (hi : i < N) (hLi : L i = false) {h0 : AH} (hk : T.kd i = .eff h0) (hpi : p ≤ i) (heffs : ∀ e, e < i → (T.kd e).isEff = true → L e = true) (hlate : ∀ e, i < e → e < N → (T.kd e).isEff = true → L e = false)
    (hsub : ∀ m a, h0.get m = some a → H.get m = some a) (hnx0 : h0.nx = H.nx)
    (hno : ∀ m a j, h0.get m = some a → (T.al p).get m = none → m = base + j → bitB (M i) j = true)
    (hR : R φ' (T.al (i + 1)) w') (hS : St φ h0 w φ' (T.al (i + 1)) w') : ∃ H', HInv T M base N φ0 hs w0 (upd L i true) φ' w' (i + 1) H' := by
  have key : ∀ m a, PendAt T M base N (upd L i true) m a → PendAt T M base N L m a ∧ (T.al (i + 1)).get m = none ∧
      ∃ g d ob, φ m = some (g, d) ∧ w.heap[g]? = some ob ∧ OR φ d a ob ∧ φ' m = some (g, d) ∧ w'.heap[g]? = some ob ∧ g < w.heap.size ∧ ∀ m' b d', h0.get m' = some b → φ m' = some (g, d') → False := by
    rintro m a ⟨j, j1, j2, j3, j4, j5⟩
    have hji : j ≠ i := by rintro rfl; rw [hk] at j3; cases j3
    rw [upd_ne _ _ hji] at j2
    have hP : PendAt T M base N L m a := ⟨j, j1, j2, j3, fun e e1 e2 e3 => j4 e e1 e2 (by
      by_cases hei : e = i
      · rw [hei, upd_eq]
      · rw [upd_ne _ _ hei]; exact e3), j5⟩
    have hbit : bitB (M i) j = false := j4 i hi (by rw [hk]; rfl) (upd_eq _ _ _)
    obtain ⟨g, d, ob, h1, h2, h3⟩ := h.r.obj m a ((h.get m a).2 (.inr hP))
    have hg := (Array.getElem?_eq_some_iff.1 h2).1
    have hn0 : h0.get m = none := by
      cases hb : h0.get m with
      | none => rfl
      | some b => rw [hno m b j hb (h.pend m a hP).1 j5] at hbit; cases hbit
    have hnob : ∀ m' b d', h0.get m' = some b → φ m' = some (g, d') → False := by
      intro m' b d' hm' hp'
      have := h.r.injB (hsub _ _ hm') ((h.get m a).2 (.inr hP)) hp' h1 (h.pend m a hP).2.2
      rw [this, hn0] at hm'
      cases hm'
    have hφ := hS.ext _ _ h1
    refine ⟨hP, ?_, g, d, ob, h1, h2, h3, hφ, by rw [hS.fr g hg fun m' b d' x1 _ x2 => hnob m' b d' x1 x2]; exact h2, hg, hnob⟩
    cases hb : (T.al (i + 1)).get m with
    | none => rfl
    | some b =>
      exfalso
      cases hbf : b.isF with
      | true =>
        obtain ⟨b', k1, _⟩ := hS.frz m b hb hbf
        rw [hn0] at k1
        cases k1
      | false =>
        obtain ⟨j', b', e', k1, _, k2⟩ := hS.im m b g d hb hbf hφ hg
        exact hnob j' b' e' k1 k2
  obtain ⟨H', hnx, hget⟩ := exAH (T.al (i + 1)).nx (fun m a => (T.al (i + 1)).get m = some a ∨ PendAt T M base N (upd L i true) m a)
    (fun m a b h1 h2 => by
      rcases h1 with h1 | h1 <;> rcases h2 with h2 | h2
      · rw [h1] at h2; cases h2; rfl
      · rw [(key m b h2).2.1] at h1; cases h1
      · rw [(key m a h1).2.1] at h2; cases h2
      · exact h1.uniq h2)
    (fun m a h1 => by
      rcases h1 with h1 | h1
      · obtain ⟨g, d, o, h2, _⟩ := hR.obj m a h1
        exact hR.dom _ _ h2
      · obtain ⟨_, _, g, d, ob, _, _, _, h2, _⟩ := key m a h1
        exact hR.dom _ _ h2)
    (fun m a h1 => by
      rcases h1 with h1 | h1
      · exact (AH.of_get h1).2
      · exact (h.pend m a (key m a h1).1).2.1)
  have hroom := h.room
  have hnx1 : H.nx ≤ (T.al (i + 1)).nx := by rw [← hnx0]; exact hS.nx
  have hblkN : ∀ m x g d, (T.al (i + 1)).get m = some x → φ' m = some (g, d) → g < w.heap.size → (∀ m' b d', h0.get m' = some b → φ m' = some (g, d') → False) → False := fun m x g d h1 h2 hg hno' => by
    cases hxf : x.isF with
    | true =>
      obtain ⟨b, k1, _⟩ := hS.frz m x h1 hxf
      obtain ⟨g1, d1, _, k2, _⟩ := h.r.obj m b (hsub _ _ k1)
      have k3 := hS.ext _ _ k2
      rw [h2] at k3
      cases k3
      exact hno' m b _ k1 k2
    | false =>
      obtain ⟨j', b', e', k1, _, k2⟩ := hS.im m x g d h1 hxf h2 hg
      exact hno' j' b' e' k1 k2
  have hRR : R φ' H' w' := by
    refine ⟨fun m a hm => ?_, fun m m' x y g d e h1 h2 h3 h4 => ?_, fun m q hq => by rw [hnx]; exact hR.dom m q hq⟩
    · rcases (hget m a).1 hm with h1 | h1
      · exact hR.obj m a h1
      · obtain ⟨_, _, g, d, ob, _, _, k3, k4, k5, _⟩ := key m a h1
        exact ⟨g, d, ob, k4, k5, k3.ext hS.ext⟩
    · rcases (hget m x).1 h1 with h5 | h5 <;> rcases (hget m' y).1 h2 with h6 | h6
      · exact hR.inj m m' x y g d e h5 h6 h3 h4
      · exfalso
        obtain ⟨_, _, g', d', ob, k1, _, _, k4, _, k6, k7⟩ := key m' y h6
        rw [h4] at k4
        cases k4
        exact hblkN m x g d h5 h3 k6 k7
      · exfalso
        obtain ⟨_, _, g', d', ob, k1, _, _, k4, _, k6, k7⟩ := key m x h5
        rw [h3] at k4
        cases k4
        exact hblkN m' y g e h6 h4 k6 k7
      · obtain ⟨p1, _, g', d', ob, k1, _, _, k4, _⟩ := key m x h5
        obtain ⟨p2, _, g2, d2, ob2, l1, _, _, l4, _⟩ := key m' y h6
        rw [h3] at k4
        cases k4
        rw [h4] at l4
        cases l4
        exact h.r.inj m m' x y g d e ((h.get m x).2 (.inr p1)) ((h.get m' y).2 (.inr p2)) k1 l1
  have hSS : St0 φ H w φ' H' w' := by
    refine ⟨hS.ext, by rw [hnx]; exact hnx1, hS.size, fun k hk' hn => hS.fr k hk' fun m a d h1 hf h2 => hn m a d (hsub _ _ h1) hf h2, fun m a g d h1 hf h2 hg => ?_, fun m a h1 hf => ?_, hS.os, hS.tape, hS.output⟩
    · rcases (hget m a).1 h1 with h5 | h5
      · obtain ⟨j', b', e', n1, n3, n2⟩ := hS.im m a g d h5 hf h2 hg
        exact ⟨j', b', e', hsub _ _ n1, n3, n2⟩
      · obtain ⟨p1, _, g', d', ob, k1, _, _, k4, _⟩ := key m a h5
        rw [h2] at k4
        cases k4
        exact ⟨m, a, d, (h.get m a).2 (.inr p1), hf, k1⟩
    · rcases (hget m a).1 h1 with h5 | h5
      · obtain ⟨b, n1, n2⟩ := hS.frz m a h5 hf
        exact ⟨b, hsub _ _ n1, n2⟩
      · exact ⟨a, (h.get m a).2 (.inr (key m a h5).1), hf⟩
  refine ⟨H', hi, fun e e1 e2 => ?_, hnx, hget, hRR, fun m a hm => ⟨(key m a hm).2.1, (h.pend m a (key m a hm).1).2⟩, by have := h.nx; omega, h.st.trans hSS, fun j hj hf => ?_, fun j hj => ?_⟩
  · by_cases hei : e = i
    · subst hei
      rw [upd_eq]
      exact ⟨fun _ => Nat.lt_succ_self e, fun _ => rfl⟩
    · rw [upd_ne _ _ hei]
      constructor
      · intro h1
        rcases Nat.lt_or_ge i e with hlt | hge
        · rw [hlate e hlt e1 e2] at h1; cases h1
        · omega
      · intro h1
        exact heffs e (by omega) e2
  · by_cases hji : j = i
    · rw [hji, upd_eq] at hf; cases hf
    · rw [upd_ne _ _ hji] at hf
      rw [hS.old (base + j) (by rw [hnx0, h.nx]; omega)]
      exact h.res j hj hf
  · rw [hS.old j (by rw [hnx0, h.nx]; omega)]
    exact h.old j hj
end
end Go.Proofs.YtibmpjhffeinoaaGreat.Kx

namespace Go.Proofs.YtibmpjhffeinoaaGreat.Kx
open Go
variable [Val] [Bet]

noncomputable section
variable {X : Exe} {E : Env} {P : Program} {β : Type} {r : β}
variable {ih : Task → Option Res} {ops : Array Oper} {M : Nat → Nat} {base : Nat} {fr0 : AF} {α0 : AH} {T : TT}
variable {L : Nat → Bool} {φ φ' φ0 : Phi} {w w' w0 : World} {hs H : AH} {p i : Nat} {o : Oper} {a : Act}

omit [Bet] in
theorem OpV.in {h : AH} {k : AV → AH → Option β} (hnd : ∀ c, o.op ≠ .defer c) (hg : OpV P o a φ h w k r) : ∃ x v, k x h = some r ∧ VR φ x v ∧
    ∀ ro n Q (next : Act → World → Prop), next (a.put o.dst v) w → Oper.wpIn (Fro ro) n P o a w next Q := by
  obtain ⟨x, v, h1, h2, h3⟩ := hg
  refine ⟨x, v, h1, h3, fun ro n Q next hK => ⟨fun _ _ => trivial, ?_⟩⟩
  rw [Oper.semAt_eq _ _ _ hnd, h2]
  exact hK
/-- One more operation that is ready. -/
theorem draw_step (HT : TabOK X.E) (HK : KeysOK X.E) (hih : Sound X.E.P ih) (HA : Ahead ops M) (F : Facts X ih ops M base fr0 α0 T ops.size) (hL : Closed ops L) (_hlt : ∀ j, L j = true → j < ops.size)
    (ho : ops[i]? = some o) (hi : L i = false) (hr : ∀ e ∈ o.after, Region.binds .any e = true → L e.on = true) (hH : HInv T M base ops.size φ0 hs w0 L φ w p H) (hF : FInv T ops fr0 L φ a.tmps)
    {ro : Option Nat} {n : Nat} {Q : Exit → Act → World → Prop} {K : Act → World → Prop}
    (hK : ∀ φ' w' a' p' H', HInv T M base ops.size φ0 hs w0 (upd L i true) φ' w' p' H' → FInv T ops fr0 (upd L i true) φ' a'.tmps → a'.defers = a.defers → K a' w') : wpOpIn (Fro ro) n X.E.P ops Q i K a w := by
  have hin : i < ops.size := (Array.getElem?_eq_some_iff.1 ho).1
  obtain ⟨fr, hFR, hag, hw⟩ := frame_of HA F hL hF ho hi hr
  have hdst : ∀ t, o.dst = some t → t < fr0.nt := fun t ht => by
    have := (F.frS i o hin ho).2.2 t ht
    rwa [(frGet F i (by omega)).1] at this
  have hput : ∀ φ' v, Ext φ φ' → VR φ' (T.x i) v → FInv T ops fr0 (upd L i true) φ' (a.put o.dst v).tmps := fun φ' v hx hv => hF.put HA hx ho hdst hv
  have hcut := hH.cut
  have hmask : ∀ j, bitB (M i) j = true → L j = true := fun j hb => mask_in HA hL i o j ho hr hb
  have hfact := F.fact i o hin ho
  have ral : R φ (T.al p) w := hH.r.sub (fun m b hm => (hH.get m b).2 (.inl hm)) (by rw [hH.nx]; exact Nat.le_refl _)
  unfold wpOpIn
  rw [ho]
  simp only
  rw [hw]
  generalize hk : T.kd i = kd at hfact
  have hx := hfact
  cases hfact with
  | skip h1 h2 =>
    rw [if_neg (by simp [Kd.wants])]
    refine ⟨fun _ _ => trivial, hK φ w _ p H (hH.still (by rw [hk]; simp) (by rw [hk]; rfl)) (hput φ undef (.refl _) ?_) (put_defers _ _ _)⟩
    rw [h1]
    exact .tup [] #[] .nil
  | pure h1 h2 h3 =>
    simp only [Kd.wants, if_true]
    obtain ⟨h', h4⟩ := h2
    rw [opK_heap (h := T.al p) h1, opK_congr hag] at h4
    have hv := opV_some HT HK ral hFR (o := o) (by rw [h1]; rfl) h4
    obtain ⟨x, v, h5, h6, h7⟩ := hv.in (by rintro c hc; rw [hc] at h1; cases h1)
    cases h5
    exact h7 ro n Q K (hK φ w _ p H (hH.still (by rw [hk]; simp) (by rw [hk]; rfl)) (hput φ v (.refl _) h6) (put_defers _ _ _))
  | read h1 h3 =>
    simp only [Kd.wants, if_true]
    have hok : ReadOK X.E o.op (T.fr i) (T.al p) (T.x i) := by
      rcases Nat.lt_or_ge i p with hip | hip
      · refine F.again i o hin ho hk p hip hH.ple fun e e1 e2 e3 => ?_
        cases hb : bitB (M e) i with
        | false => rfl
        | true =>
          have he : e < ops.size := by have := hH.ple; omega
          have hoe : ops[e]? = some ops[e] := Array.getElem?_eq_getElem he
          have := mask_in HA hL e _ i hoe (hL e _ hoe ((hcut e he e3).2 e2)) hb
          rw [hi] at this
          cases this
      · refine F.back i o hin ho hk p hip fun e e1 e2 e3 => ?_
        cases hb : bitB (M i) e with
        | false => rfl
        | true =>
          have := (hcut e (by omega) e3).1 (hmask e hb)
          omega
    obtain ⟨h', h4⟩ := hok
    rw [opK_congr hag] at h4
    have hv := opV_some HT HK ral hFR (o := o) (by rw [h1]; rfl) h4
    obtain ⟨x, v, h5, h6, h7⟩ := hv.in (by rintro c hc; rw [hc] at h1; cases h1)
    cases h5
    exact h7 ro n Q K (hK φ w _ p H (hH.still (by rw [hk]; simp) (by rw [hk]; rfl)) (hput φ v (.refl _) h6) (put_defers _ _ _))
  | made ao h2 h3 hfz =>
    simp only [Kd.wants, if_true]
    have h2' : contK X.E o.op fr (base + i) pairA = some (ao, T.x i) := by rw [← contK_congr hag]; exact h2
    obtain ⟨s, h4, v, ob, z, h5, h6, h7⟩ := contK_some (a := a) (w := w) (hH.res i hin hi) HT hFR h2'
    obtain ⟨H', hH'⟩ := hH.made hin hi hk hfz (fun e e1 e2 e3 => by
      cases hb : bitB (M e) i with
      | false => rfl
      | true =>
        have hoe : ops[e]? = some ops[e] := Array.getElem?_eq_getElem e1
        have := mask_in HA hL e _ i hoe (hL e _ hoe e3) hb
        rw [hi] at this
        cases this) h7
    refine ⟨fun _ _ => trivial, ?_⟩
    rw [Oper.semAt_eq _ _ _ (by rintro c hc; rw [hc] at h2; cases h2), h4]
    have hrun : (do pure (Next.value (← s)) : Sem Next).run X.E.P w = .ok (.value v) (w.alloc ob) := by
      rw [Sem.run_bind, h5]; rfl
    rw [hrun]
    exact hK _ _ _ p H' hH' (hput _ v (Phi.upd_ext (hH.res i hin hi)) h6) (put_defers _ _ _)
  | eff h0 h1 h2 h3 h4 =>
    simp only [Kd.wants, if_true]
    have hpi : p ≤ i := by
      rcases Nat.lt_or_ge i p with hlt' | hge
      · have := (hcut i hin (by rw [hk]; rfl)).2 hlt'
        rw [hi] at this; cases this
      · exact hge
    have heffs : ∀ e, e < i → (T.kd e).isEff = true → L e = true := fun e e1 e2 => hmask e (h3 e e1 e2)
    have hal : T.al i = T.al p := F.alEq (Nat.le_refl _) hpi (by omega) fun e e1 e2 => by
      cases he : (T.kd e).isEff with
      | false => rfl
      | true => have := (hcut e (by omega) he).1 (heffs e e2 he); omega
    have hlate : ∀ e, i < e → e < ops.size → (T.kd e).isEff = true → L e = false := by
      intro e e1 e2 e3
      cases he : L e with
      | false => rfl
      | true => have := (hcut e e2 e3).1 he; omega
    rw [hal] at h4 h2
    have hsub : ∀ m b, h0.get m = some b → H.get m = some b := by
      intro m b hm
      rcases h4 m b hm with h5 | ⟨j, j1, j2, j3, j4, j5⟩
      · exact (hH.get m b).2 (.inl h5)
      · exact (hH.get m b).2 (.inr ⟨j, by omega, hmask j j3, j2, fun e e1 e2 e3 => j4 e (by have := (hcut e e1 e2).1 e3; omega) e2, j5⟩)
    have hR0 : R φ h0 w := hH.r.sub hsub (by rw [h2, hH.nx]; exact Nat.le_refl _)
    have h1' : opRunK X ih o.op fr h0 pairK = some (T.x i, T.al (i + 1)) := by rw [← opRunK_congr hag]; exact h1
    obtain ⟨v, h', h5, h6⟩ := opRunK_some HT HK hih hR0 hFR h1'
    cases h5
    refine h6 ro n Q K fun φ' u w' q1 q2 q3 => ?_
    obtain ⟨H', hH'⟩ := hH.eff hin hi hk hpi heffs hlate hsub (by rw [h2, hH.nx]) (fun m b j k1 k2 k3 => by
      rcases h4 m b k1 with k4 | ⟨j', _, _, j3, _, j5⟩
      · rw [k2] at k4; cases k4
      · have : j' = j := by omega
        rw [← this]; exact j3) q2 q3
    exact hK _ _ _ _ H' hH' (hput _ u q3.ext q1) (put_defers _ _ _)
omit [Val] [Bet] in
theorem count_upd (i : Nat) (hi : L i = false) : ∀ l : List Nat, l.Nodup → i ∈ l → l.countP (fun j => !(upd L i true) j) + 1 = l.countP (fun j => !L j) := by
  intro l
  induction l with
  | nil => intro _ h; cases h
  | cons x l rec =>
    intro hn hm
    rw [List.nodup_cons] at hn
    by_cases hx : x = i
    · subst hx
      rw [List.countP_cons, List.countP_cons, upd_eq, hi]
      have : l.countP (fun j => !(upd L x true) j) = l.countP (fun j => !L j) := by
        apply List.countP_congr
        intro y hy
        rw [upd_ne _ _ fun e => hn.1 (by rw [← e]; exact hy)]
      rw [this]
      simp
    · have hm' : i ∈ l := by
        cases hm with
        | head => exact absurd rfl hx
        | tail _ h => exact h
      have := rec hn.2 hm'
      rw [List.countP_cons, List.countP_cons, upd_ne _ _ hx]
      omega
/-- All orders. -/
theorem draw_go (HT : TabOK X.E) (HK : KeysOK X.E) (hih : Sound X.E.P ih) (HA : Ahead ops M) (F : Facts X ih ops M base fr0 α0 T ops.size) {ro : Option Nat} {n : Nat} {Q : Exit → Act → World → Prop} {ds : List Deferred}
    (hQ : ∀ φ w a p H L, (∀ j, j < ops.size → L j = true) → HInv T M base ops.size φ0 hs w0 L φ w p H → FInv T ops fr0 L φ a.tmps → a.defers = ds → Q .normal a w) :
    ∀ (fuel : Nat) (listed : Array Bool) (L : Nat → Bool) (φ : Phi) (w : World) (a : Act) (p : Nat) (H : AH), listed.size = ops.size → (∀ j, listed.getD j false = L j) → (List.range ops.size).countP (fun j => !L j) = fuel → Closed ops L →
      HInv T M base ops.size φ0 hs w0 L φ w p H → FInv T ops fr0 L φ a.tmps → a.defers = ds → wpAnyIn (Fro ro) n X.E.P .any ops Q fuel listed a w := by
  intro fuel
  induction fuel with
  | zero =>
    intro listed L φ w a p H hsz hl hc hL hH hF hd
    have hall : ∀ j, j < ops.size → L j = true := by
      intro j hj
      have := List.countP_eq_zero.1 hc j (List.mem_range.2 hj)
      simpa using this
    refine ⟨?_, hQ φ w a p H L hall hH hF hd⟩
    cases hrd : Region.ready .any ops listed with
    | nil => rfl
    | cons x xs =>
      have hx : x ∈ Region.ready .any ops listed := by rw [hrd]; exact List.mem_cons_self
      obtain ⟨h1, o, ho, _⟩ := mem_ready.1 hx
      have hxs : x < ops.size := (Array.getElem?_eq_some_iff.1 ho).1
      have h2 := hall x hxs
      rw [← hl x] at h2
      rw [Array.getD_eq_getD_getElem?, Array.getElem?_eq_getElem (by omega)] at h1 h2
      simp at h1 h2
      rw [h1] at h2
      cases h2
  | succ fuel rec =>
    intro listed L φ w a p H hsz hl hc hL hH hF hd
    refine ⟨fun hnil => ?_, fun i hi => ?_⟩
    · refine hQ φ w a p H L ?_ hH hF hd
      intro j
      induction j using Nat.strongRecOn with
      | _ j rec2 =>
        intro hj
        cases hLj : L j with
        | true => rfl
        | false =>
          have hm : j ∈ Region.ready .any ops listed := by
            refine mem_ready.2 ⟨?_, ops[j], Array.getElem?_eq_getElem hj, fun e he hb => ?_⟩
            · rw [← hl j] at hLj
              rw [Array.getD_eq_getD_getElem?, Array.getElem?_eq_getElem (by omega)] at hLj ⊢
              simpa using hLj
            · have hlt := HA.edge j _ (Array.getElem?_eq_getElem hj) e he hb
              rw [hl]
              exact rec2 e.on hlt (by omega)
          rw [hnil] at hm
          cases hm
    · obtain ⟨h1, o, ho, hall⟩ := mem_ready.1 hi
      have hin : i < ops.size := (Array.getElem?_eq_some_iff.1 ho).1
      have hLi : L i = false := by
        rw [← hl i]
        rw [Array.getD_eq_getD_getElem?, Array.getElem?_eq_getElem (by omega)] at h1 ⊢
        simpa using h1
      have hr : ∀ e ∈ o.after, Region.binds .any e = true → L e.on = true := fun e he hb => by rw [← hl]; exact hall e he hb
      have hlt : ∀ j, L j = true → j < ops.size := by
        intro j hj
        rw [← hl j, Array.getD_eq_getD_getElem?] at hj
        rcases Nat.lt_or_ge j ops.size with h2 | h2
        · exact h2
        · rw [Array.getElem?_eq_none (by omega)] at hj; cases hj
      refine draw_step HT HK hih HA F hL hlt ho hLi hr hH hF fun φ' w' a' p' H' k1 k2 k3 => ?_
      refine rec (listed.setIfInBounds i true) (upd L i true) φ' w' a' p' H' (by rw [Array.size_setIfInBounds]; exact hsz) (fun j => ?_) ?_ (closed_upd hL ho hr) k1 k2 (k3.trans hd)
      · by_cases hji : j = i
        · subst hji
          rw [upd_eq, Array.getD_eq_getD_getElem?, Array.getElem?_setIfInBounds, if_pos rfl, if_pos (by omega)]
          rfl
        · rw [upd_ne _ _ hji, ← hl j, Array.getD_eq_getD_getElem?, Array.getD_eq_getD_getElem?, Array.getElem?_setIfInBounds, if_neg fun e => hji e.symm]
      · have := count_upd (L := L) i hLi (List.range ops.size) List.nodup_range (List.mem_range.2 hin)
        omega
theorem drawK_sound (HT : TabOK X.E) (HK : KeysOK X.E) (hm : X.E.P.follows .mixedOrders = true) : DrawOK X := by
  intro ih hih id ops fr h k r he φ0 w0 a0 ro n Q hR hF hQ
  unfold drawK at he
  split at he
  case h_2 => cases he
  rename_i ms0 n0 hst
  unfold statC at hst
  obtain ⟨ms, h1, h2, h3, h4⟩ := masksK_some _ hst
  cases hsb : staticB ops.toList ms ops.toList 0 ms with
  | false => rw [hsb] at h1; cases h1
  | true =>
    rw [hsb, ite_true_, natK_eq] at h1
    simp only [Option.some.injEq, Prod.mk.injEq] at h1
    obtain ⟨rfl, rfl⟩ := h1
    have h1 := he
    rw [natK_eq] at h1
    have HA := ahead_of (ops := ops) (ms := ms) (by simpa using h2) (fun i o ho => by simpa using h4 i o ho) hsb
    have hlen : ∀ os : List Oper, lenO os = os.length := by
      intro os
      induction os with
      | nil => rfl
      | cons o os rec => show Nat.succ (lenO os) = _; rw [rec]; rfl
    rw [hlen, Array.length_toList] at h1
    let T0 : TT := ⟨fun _ => fr, fun _ => ⟨Nat.add h.nx ops.size, h.t⟩, fun _ => .any, fun _ => .skip⟩
    have F0 : Facts X ih ops (getM ms) h.nx fr ⟨Nat.add h.nx ops.size, h.t⟩ T0 0 := ⟨rfl, rfl, fun i o hi => by omega, fun i o hi => by omega, fun i o hi => by omega, fun i o hi => by omega, fun i o hi => by omega⟩
    obtain ⟨T, hf, F, g1, g2, g3⟩ := drawOps_facts HA rfl ops.toList 0 ms fr ⟨Nat.add h.nx ops.size, h.t⟩ ⟨[], [], []⟩ k T0 rfl rfl (Nat.zero_le _) F0 rfl rfl (fun q hq => by cases hq) (fun i o hi => by omega) (show HistOK T0 0 [] from fun e he => by omega) h1
    have hR' : R φ0 ⟨Nat.add h.nx ops.size, h.t⟩ { w0 with drawn := w0.drawn + 1 } := (hR.sub (h' := ⟨Nat.add h.nx ops.size, h.t⟩) (fun m b hm => hm) (Nat.le_add_right _ _)).same rfl
    have hal0 : T.al 0 = ⟨Nat.add h.nx ops.size, h.t⟩ := F.al0
    have hnoP : ∀ m b, ¬ PendAt T (getM ms) h.nx ops.size (fun _ => false) m b := by
      rintro m b ⟨j, _, hj, _⟩
      cases hj
    have hH0 : HInv T (getM ms) h.nx ops.size φ0 h w0 (fun _ => false) φ0 { w0 with drawn := w0.drawn + 1 } 0 ⟨Nat.add h.nx ops.size, h.t⟩ := by
      refine ⟨Nat.zero_le _, fun e _ _ => ⟨(fun h => by cases h), (fun h => by omega)⟩, by rw [hal0], fun m b => ?_, hR', fun m b hm => absurd hm (hnoP m b), by rw [hal0]; exact Nat.le_refl _, ?_, fun j hj _ => ?_, fun i _ => rfl⟩
      · rw [hal0]
        constructor
        · exact .inl
        · rintro (h1 | h1)
          · exact h1
          · exact absurd h1 (hnoP m b)
      · exact ⟨.refl _, Nat.le_add_right _ _, Nat.le_refl _, fun _ _ _ => rfl, fun i b g d k1 kf k2 _ => ⟨i, b, d, k1, kf, k2⟩, fun _ b k1 k2 => ⟨b, k1, k2⟩, rfl, rfl, rfl⟩
      · cases hp : φ0 (h.nx + j) with
        | none => rfl
        | some q => have := hR.dom _ _ hp; omega
    have hF0 : FInv T ops fr (fun _ => false) φ0 a0.tmps := ⟨hF.1, (fun j o t _ hj => by cases hj), fun t x hx _ => hF.2 t x hx⟩
    refine wpIn_region_any hm ?_
    refine draw_go HT HK hih HA F (hs := h) (φ0 := φ0) (w0 := w0) (ds := a0.defers) (fun φ w a p H L hall hH hFI hd => ?_) ops.size _ (fun _ => false) φ0 _ a0 0 _ (by simp) (fun j => ?_) ?_ (fun i o _ hi => by cases hi) hH0 hF0 rfl
    · -- behind all
      have halN : T.al ops.size = T.al p := F.alEq (Nat.le_refl _) hH.ple (Nat.le_refl _) fun e e1 e2 => by
        cases he : (T.kd e).isEff with
        | false => rfl
        | true => have := (hH.cut e e2 he).1 (hall e e2); omega
      have e1 := g2
      have e2 := g3
      have hsub : ∀ m b, hf.get m = some b → H.get m = some b := by
        intro m b hmb
        rcases e2 m b hmb with h5 | ⟨j, j1, j2, j3, j4⟩
        · rw [halN] at h5; exact (hH.get m b).2 (.inl h5)
        · exact (hH.get m b).2 (.inr ⟨j, j1, hall j j1, j2, fun e f1 f2 _ => j3 e f1 f2, j4⟩)
      have hnx : hf.nx = H.nx := by rw [e1, halN, hH.nx]
      refine hQ _ hf φ w a g1 (hH.r.sub hsub (by rw [hnx]; exact Nat.le_refl _)) ⟨⟨hH.st.ext, by rw [hnx]; exact hH.st.nx, hH.st.size, hH.st.fr, fun m b g d k1 kf k2 k3 => hH.st.im m b g d (hsub _ _ k1) kf k2 k3, fun m b k1 k2 => hH.st.frz m b (hsub _ _ k1) k2, hH.st.os, hH.st.tape, hH.st.output⟩, hH.old⟩ ?_ hd
      obtain ⟨f1, f2⟩ := frGet F ops.size (Nat.le_refl _)
      refine ⟨by rw [f1]; exact hFI.size, fun t x hx => ?_⟩
      rcases f2 t with ⟨j, o, j1, j2, j3, j4⟩ | ⟨j1, j2⟩
      · rw [j4] at hx
        cases hx
        exact hFI.one j o t j2 (hall j j1) j3
      · rw [j2] at hx
        exact hFI.two t x hx fun j o hoj _ => j1 j o (Array.getElem?_eq_some_iff.1 hoj).1 hoj
    · rw [Array.getD_eq_getD_getElem?, Array.getElem?_replicate]
      split <;> rfl
    · simp
end
end Go.Proofs.YtibmpjhffeinoaaGreat.Kx
