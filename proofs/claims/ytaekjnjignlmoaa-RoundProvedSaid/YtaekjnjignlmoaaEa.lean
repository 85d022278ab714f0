/-
  The program: 'earliest'.
-/
import Derived.Test.YtaekjnjignlmoaaSmA
import Derived.Test.YtaekjnjignlmoaaEr
import Derived.Test.YtaekjnjignlmoaaI
import Derived.Laws.EntriesVeiled
import Derived.Carry
namespace Go.Proofs.Ytaekjnjignlmoaa
open Go.RowKit Go.Shelf Go.Maps
attribute [local go_sem] Oper.semAt_some

section
variable {w w' : World} {b r n cnt : Nat} {f : Int × Int × Int → Option Int}
variable {ops : Array Oper} {rest : List Oper} {o : Oper} {a : Act} {Q : Exit → Act → World → Prop}
theorem Ms.look_op (hg : o.guard = none) (m x : Operand) (hop : o.op = Op.lookup 117 m x true) (hm : a.eval m = .map (some b)) (h : Ms w b n f) (p : Int × Int × Int) (hx : a.eval x = bkV p) (hp : in64 p) (z : Int) (ok : Bool) (hf : Hid (f p = if ok then some z else none)) (hz : Hid (ok = false → z = 0))
    (hK : wpList Try.prog ops Q rest (a.put o.dst (.tuple #[.int .i64 z, .bool ok])) w) : wpList Try.prog ops Q (o :: rest) a w := by
  refine Ms.lookup_op hg m x hop hm h p hx hp (fun h0 => ?_) (fun v h0 => ?_)
  · cases ok with
    | true => have := hf.out; rw [h0, if_pos rfl] at this; cases this
    | false => have := hz.out rfl; subst this; exact hK
  · cases ok with
    | true => have := hf.out; rw [h0, if_pos rfl] at this; cases this; exact hK
    | false => have := hf.out; rw [h0, if_neg (by decide)] at this; cases this
theorem Ms.below {B : Nat} (h : Ms w b n f) (hb : Below B w w') (hB : b < B) : Ms w' b n f := h.same (hb.block b hB)
theorem Ms.from_ {β : Type} (B : Nat) : OwnFrom B (fun (_ : β) W => b < B ∧ Ms W b n f) := fun s W W' row hs hg hr => ⟨hs.1, hs.2.kept hg (fun e => by
  have := (hr b e.symm).1
  omega)⟩
end
theorem Chg.keepsAt {X : Nat → Prop} {A B : World} (h : Chg X A B) (K : Nat) (hX : ∀ k, X k → k < K) : KeepsFrom K A B :=
  ⟨h.size, fun k o hK hk _ => (h.block k (Array.getElem?_eq_some_iff.1 hk).1 (fun hx => by have := hX k hx; omega)).trans hk⟩
theorem Chg.ke {X : Nat → Prop} {A B : World} (h : Chg X A B) {B0 p : Nat} (hB : ∀ k, X k → B0 ≤ k) (hs : B0 ≤ A.heap.size) (hp : p < A.heap.size) (hx : ¬ X p) : Ke B0 p A B := ⟨h.toBelow hB hs, h.block p hp hx⟩
theorem in64_nat {x y e : Nat} (hx : x ≤ 1000) (hy : y ≤ 1000) (he : e ≤ 1000) : in64 ((x : Int), (y : Int), (e : Int)) := in64_of (by constructor <;> simp <;> omega) (by constructor <;> simp <;> omega) (by constructor <;> simp <;> omega)

set_option maxRecDepth 100000 in
set_option maxHeartbeats 1000000 in
theorem dEarl1 (pb mb N : Nat) (f : Int × Int × Int → Option Int) (w : World) (hpb : w.cell? ⟨pb, 0, none⟩ = some (.map (some mb))) (hpl : pb < w.heap.size) (hm : Ms w mb N f) (x y e : Nat) (hx : x ≤ 1000) (hy : y ≤ 1000) (he : e ≤ 1000) :
    Calls Try.prog 116 #[.agg #[.int .i64 (x : Int), .int .i64 (y : Int), .int .i64 (e : Int)], .pointer (some ⟨pb, 0, none⟩)] w fun r w' => r = .returned (.int .i64 (numF f x y e)) ∧ Below w.heap.size w w' := by
  have hb1 := (Below.refl _ w).alloc (Nat.le_refl _) (.cells #[.int .i64 (x : Int), .int .i64 (y : Int), .int .i64 (e : Int)] 107)
  have hbk := Bk.new w 107 #[.int .i64 (x : Int), .int .i64 (y : Int), .int .i64 (e : Int)]
  have hc0 := hbk.cell 0
  have hc1 := hbk.cell 1
  have hc2 := hbk.cell 2
  have hp1 : (w.alloc (.cells #[.int .i64 (x : Int), .int .i64 (y : Int), .int .i64 (e : Int)] 107)).cell? ⟨pb, 0, none⟩ = some (.map (some mb)) := (hb1.cell hpl).trans hpb
  have hm1 := hm.alloc (.cells #[.int .i64 (x : Int), .int .i64 (y : Int), .int .i64 (e : Int)] 107)
  have hin := in64_nat hx hy he
  cases hf : f ((x : Int), (y : Int), (e : Int)) with
  | none =>
    have HF : Hid (f ((x : Int), (y : Int), (e : Int)) = if false then some 0 else none) := Lib.hid (by rw [hf]; rfl)
    have HN : Hid (numF f x y e = -1) := Lib.hid (by unfold numF; rw [hf]; rfl)
    clear hf
    go_enter Try.func116, Try.ntmps116
    go_wp2_with (refine Ms.look_op rfl (.tmp 7) (.tmp 8) rfl rfl hm1 ((x : Int), (y : Int), (e : Int)) rfl hin 0 false HF (Lib.hid (fun _ => rfl)) ?_)
    go_ret
    exact ⟨ret_i HN.out.symm, hb1⟩
  | some v =>
    have HF : Hid (f ((x : Int), (y : Int), (e : Int)) = if true then some v else none) := Lib.hid (by rw [hf]; rfl)
    have HN : Hid (numF f x y e = v) := Lib.hid (by unfold numF; rw [hf]; rfl)
    clear hf
    go_enter Try.func116, Try.ntmps116
    go_wp2_with (refine Ms.look_op rfl (.tmp 7) (.tmp 8) rfl rfl hm1 ((x : Int), (y : Int), (e : Int)) rfl hin v true HF (Lib.hid (fun h => by cases h)) ?_)
    go_ret
    exact ⟨ret_i HN.out.symm, hb1⟩

theorem endsL_len {b : Int} {ps : List (Int × Int)} (hp : Pier b ps) : (endsL b ps).length ≤ 300 := by
  have h1 := hp.hi
  have h2 := lefts_le b ps
  unfold endsL
  rw [outE_len]
  have h3 : (lefts b ps + 1) * ((ps.length - lefts b ps + 1) * 2) ≤ 11 * (11 * 2) := Nat.mul_le_mul (by omega) (Nat.mul_le_mul_right _ (by omega))
  omega
theorem foldF_bound {b : Int} {ps : List (Int × Int)} (hp : Pier b ps) (L : List T3) (x y e : Nat) : -1 ≤ numF (foldF b ps L) x y e ∧ numF (foldF b ps L) x y e ≤ 9000 := numF_bd (foldF_bd hp L) x y e

set_option maxRecDepth 100000 in
set_option maxHeartbeats 4000000 in
theorem dEarliest (g n c : Nat) (A : Option Addr) (b : Int) (ps : List (Int × Int)) (w : World) (hw : Wk w w.heap.size g A n c b ps) (HP : Hid (Pier b ps)) :
    Calls Try.prog 86 #[.pointer (some ⟨g, 0, none⟩)] w fun r w' => ∃ mb N, r = .returned (.map (some mb)) ∧ Ms w' mb N (foldF b ps (endsL b ps)) ∧ w.heap.size ≤ mb ∧ Below w.heap.size w w' := by
  have HLN := Lib.hid hw.rp.len
  have hn10 : n ≤ 10 := by have := HP.out.hi; have := HLN.out; omega
  have hmf : ∀ (fn : Fn) (first cap : Array Value) (w : World), (Instr.makeFunc fn first cap).run Try.prog w = .ok (.func fn first cap) w := fun _ _ _ _ => rfl
  refine (callsIn_wide (n := 5)).1 ?_
  refine callsIn_of_wp_marks Try.func86 rfl trivial ?_ rfl
  simp only [Try.ntmps86, List.size_toArray, List.length_cons, List.length_nil, Nat.reduceAdd, Nat.reduceSub, Array.replicate_succ, Array.replicate_zero, List.push_toArray, List.append_toArray, List.nil_append, List.cons_append]
  have hmm := @run_makeMap Try.prog
  refine wpIn_wide.2 ?_
  go_wp2_with fail
  refine (dEnds _ _).mono ?_
  rintro e w' ⟨rfl, rfl⟩
  have hb1 : Below w.heap.size w (((((w.alloc (.cells #[.pointer (some ⟨g, 0, none⟩)] 79)).alloc (.map #[] 0)).alloc (.cells #[.map (some (w.heap.size + 1))] 117)).alloc (.cells #[.func (.func 116) #[] #[.pointer (some ⟨w.heap.size + 1 + 1, 0, none⟩)]] 108)).alloc (.cells #[.pointer (some ⟨g, 0, none⟩)] 79)) := ((((Below.refl _ w).alloc (Nat.le_refl _) _).alloc (by simp) _).alloc (by simp; omega) _ |>.alloc (by simp; omega) _).alloc (by simp; omega) _
  have q0 := ((((Bk.new w 79 #[.pointer (some ⟨g, 0, none⟩)]).alloc (.map #[] 0)).alloc (.cells #[.map (some (w.heap.size + 1))] 117)).alloc (.cells #[.func (.func 116) #[] #[.pointer (some ⟨w.heap.size + 1 + 1, 0, none⟩)]] 108)).alloc (.cells #[.pointer (some ⟨g, 0, none⟩)] 79)
  have qm := (((Ms.made (w.alloc (.cells #[.pointer (some ⟨g, 0, none⟩)] 79))).alloc (.cells #[.map (some (w.heap.size + 1))] 117)).alloc (.cells #[.func (.func 116) #[] #[.pointer (some ⟨w.heap.size + 1 + 1, 0, none⟩)]] 108)).alloc (.cells #[.pointer (some ⟨g, 0, none⟩)] 79)
  have qp := ((Bk.new ((w.alloc (.cells #[.pointer (some ⟨g, 0, none⟩)] 79)).alloc (.map #[] 0)) 117 #[.map (some (w.heap.size + 1))]).alloc (.cells #[.func (.func 116) #[] #[.pointer (some ⟨w.heap.size + 1 + 1, 0, none⟩)]] 108)).alloc (.cells #[.pointer (some ⟨g, 0, none⟩)] 79)
  have qf := (Bk.new (((w.alloc (.cells #[.pointer (some ⟨g, 0, none⟩)] 79)).alloc (.map #[] 0)).alloc (.cells #[.map (some (w.heap.size + 1))] 117)) 108 #[.func (.func 116) #[] #[.pointer (some ⟨w.heap.size + 1 + 1, 0, none⟩)]]).alloc (.cells #[.pointer (some ⟨g, 0, none⟩)] 79)
  have qb := Bk.new ((((w.alloc (.cells #[.pointer (some ⟨g, 0, none⟩)] 79)).alloc (.map #[] 0)).alloc (.cells #[.map (some (w.heap.size + 1))] 117)).alloc (.cells #[.func (.func 116) #[] #[.pointer (some ⟨w.heap.size + 1 + 1, 0, none⟩)]] 108)) 79 #[.pointer (some ⟨g, 0, none⟩)]
  simp only [World.size_alloc] at q0 qm qp qf qb ⊢
  obtain ⟨W0, hW0⟩ : ∃ W0, (((((w.alloc (.cells #[.pointer (some ⟨g, 0, none⟩)] 79)).alloc (.map #[] 0)).alloc (.cells #[.map (some (w.heap.size + 1))] 117)).alloc (.cells #[.func (.func 116) #[] #[.pointer (some ⟨w.heap.size + 1 + 1, 0, none⟩)]] 108)).alloc (.cells #[.pointer (some ⟨g, 0, none⟩)] 79)) = W0 := ⟨_, rfl⟩
  have hs0 : w.heap.size + 5 = W0.heap.size := by rw [← hW0]; simp
  rw [hW0] at q0 qm qp qf qb hb1 ⊢
  clear hW0
  obtain ⟨s0, H0⟩ : ∃ s, Hid (w.heap.size = s) := ⟨_, Lib.hid rfl⟩
  rw [H0.out] at q0 qm qp qf qb hb1 hs0 hw ⊢
  obtain ⟨s1, H1⟩ : ∃ s, Hid (s0 + 1 = s) := ⟨_, Lib.hid rfl⟩
  rw [H1.out] at qm qp qf qb ⊢
  obtain ⟨s2, H2⟩ : ∃ s, Hid (s1 + 1 = s) := ⟨_, Lib.hid rfl⟩
  rw [H2.out] at qp qf qb ⊢
  obtain ⟨s3, H3⟩ : ∃ s, Hid (s2 + 1 = s) := ⟨_, Lib.hid rfl⟩
  rw [H3.out] at qf qb ⊢
  obtain ⟨s4, H4⟩ : ∃ s, Hid (s3 + 1 = s) := ⟨_, Lib.hid rfl⟩
  rw [H4.out] at qb ⊢
  have HS : Hid (s1 = s0 + 1 ∧ s2 = s0 + 2 ∧ s3 = s0 + 3 ∧ s4 = s0 + 4 ∧ W0.heap.size = s0 + 5) := Lib.hid (by have := H1.out; have := H2.out; have := H3.out; have := H4.out; omega)
  clear hs0
  have hw1 := hw.below hb1
  have hw0s : s0 ≤ W0.heap.size := by have := HS.out; omega
  go_wp2_with fail
  refine ends_range s4 g n c s0 A b ps rfl HP qb hw1 hw0s
    (fun pre W => (Bk W s0 79 #[.pointer (some ⟨g, 0, none⟩)] ∧ Bk W s2 117 #[.map (some s1)] ∧ Bk W s3 108 #[.func (.func 116) #[] #[.pointer (some ⟨s2, 0, none⟩)]]) ∧ (∃ N, N ≤ pre.length ∧ s1 < W0.heap.size ∧ Ms W s1 N (foldF b ps (pre.map (·.1)))) ∧ Below s0 w W)
    (fun _ _ _ => False) ?hI ?hIx ⟨⟨q0, qp, qf⟩, ⟨0, Nat.le_refl _, by have := HS.out; omega, qm⟩, hb1⟩ ?fa ?hassign ?hbody ?hdone ?hstop
  case hI => exact fun s' A' C row hs hg' hr => ⟨⟨Bk.from_ (β := Unit) _ _ _ _ () A' C row hs.1.1 hg' hr, Bk.from_ (β := Unit) _ _ _ _ () A' C row hs.1.2.1 hg' hr, Bk.from_ (β := Unit) _ _ _ _ () A' C row hs.1.2.2 hg' hr⟩, (let ⟨N, h1, h2, h3⟩ := hs.2.1; ⟨N, h1, h2, (Ms.from_ (β := Unit) W0.heap.size () A' C row ⟨h2, h3⟩ hg' hr).2⟩), below_from (β := Unit) (w0 := w) hw0s (Nat.le_of_eq H0.out.symm) () A' C row hs.2.2 hg' hr⟩
  case hIx => exact fun _ _ _ _ _ h _ _ => h
  case hassign =>
    intro l x W be K hbe hK
    dsimp only [endC] at hK ⊢
    gi_wp2
    exact hK
  case hbody =>
    rintro l pre ⟨x, y, e⟩ ⟨hx, hy, he⟩ be W ⟨⟨h0, h1, h2⟩, ⟨N, h3, h4, h5⟩, h6⟩ hbe hbk hsW hlen
    dsimp only [endC] at hx hy he hbk ⊢
    obtain ⟨L, HL⟩ : ∃ L, Hid (pre.map (·.1) = L) := ⟨_, Lib.hid rfl⟩
    have HSN : Hid ((pre ++ [(⟨(x, y, e), ⟨hx, hy, he⟩⟩ : EndT b ps)]).map (·.1) = L ++ [(x, y, e)]) := Lib.hid (by rw [List.map_append, HL.out]; rfl)
    rw [HL.out] at h5
    have hlen3 := endsL_len HP.out
    have hN20 : N < 1048576 := by omega
    have HNB := Lib.hid (foldF_bound HP.out L)
    have HNP : Hid (N + 1 ≤ (pre ++ [(⟨(x, y, e), ⟨hx, hy, he⟩⟩ : EndT b ps)]).length) := Lib.hid (by rw [List.length_append]; simp; omega)
    rw [HLN.out] at hy
    have hx10 : x ≤ 1000 := by have := lefts_le b ps; rw [HLN.out] at this; omega
    have hy10 : y ≤ 1000 := by omega
    have HX := Lib.hid hx
    have HY := Lib.hid hy
    have HE := Lib.hid he
    have hin := in64_nat hx10 hy10 (by omega : e ≤ 1000)
    have hsz : s0 ≤ W.heap.size := by have := h6.size; rw [H0.out] at this; exact this
    have hwW := (hw.below h6).more hsz
    have hs2W : s2 < W.heap.size := h1.lt
    have hs1W : s1 < W.heap.size := by omega
    have hcall := dSumA g n c s2 A b ps W hwW HP (numF (foldF b ps L)) HNB.out
      (fun V x' y' e' hV hx' hy' he' => dEarl1 s2 s1 N _ V ((hV.cell (p := ⟨s2, 0, none⟩) hs2W).trans (h1.cell 0)) (Nat.lt_of_lt_of_le hs2W hV.size) (h5.below hV hs1W) x' y' e' (by have := lefts_le b ps; rw [HLN.out] at this; omega) (by omega) (by omega)) x y e HX.out HY.out HE.out
    obtain ⟨f, HF⟩ : ∃ f, Hid (foldF b ps L = f) := ⟨_, Lib.hid rfl⟩
    rw [HF.out] at hcall h5 HNB
    have c0 := h0.cell 0
    have c2 := h2.cell 0
    have d0 := hbk.cell 0
    have d1 := hbk.cell 1
    have d2 := hbk.cell 2
    clear hlen
    gi_wp2_with fail
    refine ⟨trivial, ?_⟩
    refine (CallsIn.inRound l (callsIn_wide.2 hcall)).mono ?_
    rintro r W2 ⟨⟨v, rfl, hv, hv0, hv1⟩, hb2⟩
    have hvw : (Lit.int .i64 v).wf = true := WalkArith.wf_i64 (by omega)
    have h02 := h0.below hb2 h0.lt
    have h12 := h1.below hb2 h1.lt
    have h22 := h2.below hb2 h2.lt
    have hbk2 := hbk.below hb2 hbk.lt
    have h52 := h5.below hb2 hs1W
    have hch2 : Chg (fun k => k = s1) W W2 := (Chg.refl _ W).below hb2 (Nat.le_refl _)
    have e2 : W2.cell? ⟨s2, 0, none⟩ = some (.map (some s1)) := h12.cell 0
    have e0 : W2.cell? ⟨be, 0, none⟩ = some (.int .i64 (x : Int)) := hbk2.cell 0
    have e1 : W2.cell? ⟨be, 1, none⟩ = some (.int .i64 (y : Int)) := hbk2.cell 1
    have e3 : W2.cell? ⟨be, 2, none⟩ = some (.int .i64 (e : Int)) := hbk2.cell 2
    have hs12 : s1 ≠ s0 ∧ s1 ≠ s2 ∧ s1 ≠ s3 ∧ s1 ≠ s4 ∧ s1 ≠ be ∧ s0 ≤ s1 ∧ s4 < W.heap.size := by have := HS.out; omega
    have HSX := Lib.hid hs12
    clear c0 c2 d0 d1 d2 hcall hs12
    by_cases hok : 0 ≤ sumE b ps (numF f) x y e
    · have HFO : Hid (foldF b ps (L ++ [(x, y, e)]) = upd f ((x : Int), (y : Int), (e : Int)) v) := Lib.hid (by
        rw [foldF_snoc, HF.out]
        unfold stepF
        rw [if_pos hok, hv hok]
        rfl)
      have hdk : decide (0 ≤ sumE b ps (numF f) x y e) = true := decide_eq_true hok
      rw [hdk]
      clear hdk hok hv
      gi_wp2_with (refine Ms.store_in rfl (.tmp 20) (.tmp 21) (.tmp 22) rfl ((x : Int), (y : Int), (e : Int)) v rfl h52 hN20 hin hvw rfl rfl ?_; intro W3 hm3 hg3)
      have hch3 := hch2.grown hg3 (fun r e => by cases e; exact .inl rfl)
      refine ⟨hch3.keepsAt _ (fun k e => by rw [e]; exact h4), hch3.ke (fun k e => by rw [e]; exact HSX.out.2.2.2.2.2.1) hsz HSX.out.2.2.2.2.2.2 (fun e => HSX.out.2.2.2.1 e.symm), ⟨hch3.bk h0 (fun e => HSX.out.1 e.symm), hch3.bk h1 (fun e => HSX.out.2.1 e.symm), hch3.bk h2 (fun e => HSX.out.2.2.1 e.symm)⟩, ⟨N + 1, HNP.out, h4, by rw [HSN.out, HFO.out]; exact hm3⟩, ?_⟩
      exact h6.trans (hch3.toBelow (fun k e => by rw [e]; exact HSX.out.2.2.2.2.2.1) hsz)
    · have HFO : Hid (foldF b ps (L ++ [(x, y, e)]) = cutP f ((x : Int), (y : Int), (e : Int))) := Lib.hid (by
        rw [foldF_snoc, HF.out]
        unfold stepF
        rw [if_neg hok]
        rfl)
      have hdk : decide (0 ≤ sumE b ps (numF f) x y e) = false := decide_eq_false hok
      rw [hdk]
      clear hdk hok hv
      gi_wp2_with (first | (refine Ms.store_in rfl (.tmp 20) (.tmp 21) (.tmp 22) rfl ((x : Int), (y : Int), (e : Int)) v rfl h52 hN20 hin hvw rfl rfl ?_; intro W3 hm3 hg3; have f2 : W3.cell? ⟨s2, 0, none⟩ = some (.map (some s1)) := (h12.grown hg3 (fun e => HSX.out.2.1 (Option.some.inj e).symm)).cell 0; have hbk3 := hbk2.grown hg3 (fun e => HSX.out.2.2.2.2.1 (Option.some.inj e).symm); have f0 : W3.cell? ⟨be, 0, none⟩ = some (.int .i64 (x : Int)) := hbk3.cell 0; have f1 : W3.cell? ⟨be, 1, none⟩ = some (.int .i64 (y : Int)) := hbk3.cell 1; have f3 : W3.cell? ⟨be, 2, none⟩ = some (.int .i64 (e : Int)) := hbk3.cell 2) | (refine Ms.delete_in rfl (.tmp 25) (.tmp 26) rfl rfl hm3 ((x : Int), (y : Int), (e : Int)) rfl hin ?_; intro W4 hm4 hg4))
      have hch3 := (hch2.grown hg3 (fun r e => by cases e; exact .inl rfl)).grown hg4 (fun r e => by cases e; exact .inl rfl)
      rw [cut_upd] at hm4
      refine ⟨hch3.keepsAt _ (fun k e => by rw [e]; exact h4), hch3.ke (fun k e => by rw [e]; exact HSX.out.2.2.2.2.2.1) hsz HSX.out.2.2.2.2.2.2 (fun e => HSX.out.2.2.2.1 e.symm), ⟨hch3.bk h0 (fun e => HSX.out.1 e.symm), hch3.bk h1 (fun e => HSX.out.2.1 e.symm), hch3.bk h2 (fun e => HSX.out.2.2.1 e.symm)⟩, ⟨N + 1, HNP.out, h4, by rw [HSN.out, HFO.out]; exact hm4⟩, ?_⟩
      exact h6.trans (hch3.toBelow (fun k e => by rw [e]; exact HSX.out.2.2.2.2.2.1) hsz)
  case hdone =>
    rintro Dd xs W hD hxs ⟨⟨h0, h1, h2⟩, ⟨N, h3, h4, h5⟩, h6⟩ hDW
    rw [hxs] at h5
    have HD := Lib.hid hDW
    have c1 := h1.cell 0
    clear hDW hxs
    go_wp2
    refine ⟨by simp, .inl ⟨_, _, rfl, run_takeDeferred HD.out, ?_⟩⟩
    refine ⟨_, results_tmp rfl _ _ _, s1, N, rfl, h5.same ?_, by have := HS.out; rw [H0.out]; omega, ?_⟩
    · exact World.putObj_heap_other (by omega)
    · have h6' := h6
      rw [← H0.out] at h6'
      exact h6'.grown (grownBy_putObj' W Dd (.deferred none)) h6'.size (fun k e => by cases e; have := HS.out; rw [H0.out]; omega)
  case hstop => exact fun _ _ _ _ _ h _ => h.elim
end Go.Proofs.Ytaekjnjignlmoaa
