/-
  The program: heights.
-/
import Derived.Test.YtloibnmhgocboaaHtB
namespace Go.Proofs.Ytloibnmhgocboaa
open Go.RowKit Go.Shelf
attribute [local go_sem] Oper.semAt_some

def firstRangeWhole : Code → Option Code
  | .rangeFunc a b c d => some (.rangeFunc a b c d)
  | .seq a b => match firstRangeWhole a with
    | some c => some c
    | none => firstRangeWhole b
  | .loop c => firstRangeWhole c
  | .block _ c => firstRangeWhole c
  | .scope c => firstRangeWhole c
  | .cond _ a b => match firstRangeWhole a with
    | some c => some c
    | none => firstRangeWhole b
  | _ => none
noncomputable def htRange : Code := ((Try.f62.body.bind firstRangeWhole).getD .skip)
/-- Block P is the box of a list of the call's own. -/
def OutP (base P : Nat) (L : List Int) (W : World) : Prop := ∃ (A : Option Addr) (c : Nat), Bk W P 22 #[.slice A L.length c] ∧ Oi W base A L.length c L
/-- How long the list in block P is. -/
def outLen (w : World) (P : Nat) : Nat := match w.cell? ⟨P, 0, none⟩ with
  | some (.slice _ n _) => n
  | _ => 0
theorem outLen_of {w : World} {P : Nat} {A : Option Addr} {n c : Nat} (h : Bk w P 22 #[.slice A n c]) : outLen w P = n := by
  unfold outLen
  rw [h.cell 0]
  rfl
theorem outP_from {β : Type} (B base P : Nat) (L : β → List Int) : OwnFrom B (fun s W => OutP base P (L s) W) := fun s A C row hs hg hr => by
  obtain ⟨A', c', h1, h2⟩ := hs
  exact ⟨A', c', Bk.from_ (β := Unit) _ _ _ _ () A C row h1 hg hr, Oi.from_ (β := Unit) _ _ _ _ _ _ () A C row h2 hg hr⟩
set_option maxRecDepth 100000 in
set_option maxHeartbeats 4000000 in
theorem ht_range (B0 g P bp bm m : Nat) (A : Option Addr) (nc c : Nat) (st cs : List Int) (M : Nat) (hM : M ≤ 300) (HG : Hid (Good cs)) (W : World) (Q : Exit → Act → World → Prop) (ds : List Deferred) (u2 u3 u4 u6 u7 u8 u9 u11 u12 u13 u14 u15 u16 u17 u18 u19 u20 u21 u22 u23 u24 u25 u26 u27 u28 u29 u30 u31 u32 u33 u34 u35 u36 : Value)
    (hg : g < B0) (hP : B0 ≤ P) (hPp : P ≠ bp) (hPm : P ≠ bm) (hx : Ri W B0 A nc cs) (kg : Bk W g 84 (tillCells A nc c m st))
    (kP : Bk W P 22 #[.slice none 0 0]) (kp : Bk W bp 62 #[.pointer (some ⟨g, 0, none⟩)]) (km : Bk W bm 2 #[.int .i64 (M : Int)])
    (hQ : ∀ (D : Nat) (W' : World), OutP W.heap.size P (outOf (py cs (M + 1))) W' → Below B0 W W' → W'.heap[D]? = some (.deferred (some [])) → W.heap.size ≤ D → Q .normal ⟨#[.pointer (some ⟨g, 0, none⟩), .int .i64 (M : Int), u2, u3, u4, .pointer (some ⟨P, 0, none⟩), u6, u7, u8, u9, .func (.func 86) #[] #[.pointer (some ⟨bp, 0, none⟩), .pointer (some ⟨bm, 0, none⟩)], u11, u12, u13, u14, u15, u16, u17, u18, u19, u20, u21, u22, u23, u24, u25, u26, u27, u28, u29, u30, u31, u32, u33, u34, u35, u36], { target := .collected D, args := #[] } :: ds⟩ W') :
    htRange.wp Try.prog Q ⟨#[.pointer (some ⟨g, 0, none⟩), .int .i64 (M : Int), u2, u3, u4, .pointer (some ⟨P, 0, none⟩), u6, u7, u8, u9, .func (.func 86) #[] #[.pointer (some ⟨bp, 0, none⟩), .pointer (some ⟨bm, 0, none⟩)], u11, u12, u13, u14, u15, u16, u17, u18, u19, u20, u21, u22, u23, u24, u25, u26, u27, u28, u29, u30, u31, u32, u33, u34, u35, u36], ds⟩ W := by
  conv => arg 2; whnf
  have hPl := kP.lt
  have hpl := kp.lt
  have hml := km.lt
  have hsb : B0 ≤ W.heap.size := by omega
  refine (wpIn_wide (n := 5)).1 ?_
  refine wpIn_rangeFunc_ownG rfl (by decide) (gf := 86) (lb := #[.pointer (some ⟨bp, 0, none⟩), .pointer (some ⟨bm, 0, none⟩)]) rfl trivial (enters_of Try.func86 (by kernel_rfl) rfl)
    (pay_stops (5 - 1) (by decide) bp bm g B0 A nc c m st cs M hM HG W hg hx kg hsb hpl hml (kp.cell 0) (km.cell 0)) Kp.trans
    (fun W' l o o' hl ho _ hw => ⟨KeepsWalks.putObj o' ho hw, (Below.refl B0 W').grown (grownBy_putObj' W' l o') (by have := (Array.getElem?_eq_some_iff.1 ho).1; omega) (fun k e => by cases e; omega), (grownBy_putObj' W' l o').block bp (by have := (Array.getElem?_eq_some_iff.1 ho).1; omega) (fun e => by cases e; omega), (grownBy_putObj' W' l o').block bm (by have := (Array.getElem?_eq_some_iff.1 ho).1; omega) (fun e => by cases e; omega)⟩)
    (Below.refl _ _) (fun _ => rfl)
    (fun pre W' => OutP W.heap.size P (outOf pre) W' ∧ Below B0 W W' ∧ W.heap.size ≤ W'.heap.size ∧ pre.length ≤ 302)
    (fun _ _ _ => False)
    ?hI ?hIx ?h0 (fun x => ⟨#[.pointer (some ⟨g, 0, none⟩), .int .i64 (M : Int), u2, u3, u4, .pointer (some ⟨P, 0, none⟩), .int .i64 (x.1.1 : Int), .int .i64 x.2, u8, u9, .func (.func 86) #[] #[.pointer (some ⟨bp, 0, none⟩), .pointer (some ⟨bm, 0, none⟩)], .int .i64 (x.1.1 : Int), .int .i64 x.2, u13, u14, u15, u16, u17, u18, u19, u20, u21, u22, u23, u24, u25, u26, u27, u28, u29, u30, u31, u32, u33, u34, u35, u36], []⟩) ?assign ?body ?done ?stop
  case hI =>
    exact fun s A' C row hs hgr hr => ⟨outP_from W.heap.size W.heap.size P (fun pre => outOf pre) s A' C row hs.1 hgr hr, below_from hsb hsb (β := Unit) () A' C row hs.2.1 hgr hr, Nat.le_trans hs.2.2.1 hgr.size, hs.2.2.2⟩
  case hIx => exact fun _ _ _ _ _ h _ _ => h
  case h0 => exact ⟨⟨none, 0, kP, Oi.nil_ _ _⟩, Below.refl _ _, Nat.le_refl _, by simp⟩
  case assign =>
    intro l x W' K hK
    gi_wp2
    exact hK
  case body =>
    rintro l pre x W' ⟨⟨A1, c1, hb1, ho1⟩, hbel, hsz1, hpre⟩ hlen
    have hx300 := x.1.2
    have hol := outOf_len pre
    obtain ⟨L0, HL0⟩ : ∃ L, Hid (outOf pre = L) := ⟨_, Lib.hid rfl⟩
    rw [HL0.out] at hb1 ho1 hol
    obtain ⟨a, ha⟩ : ∃ a : Nat, x.1.1 = a := ⟨_, rfl⟩
    rw [ha] at hx300 ⊢
    obtain ⟨z, hz⟩ : ∃ z : Int, x.2 = z := ⟨_, rfl⟩
    rw [hz]
    have HOUT : Hid (outOf (pre ++ [x]) = padTo L0 a ++ [z]) := Lib.hid (by rw [outOf_snoc, HL0.out, ha, hz])
    gi_wp2
    gi_loopw [] (fun wr => ∃ (L : List Int) (A2 : Option Addr) (c2 : Nat), Hid (padTo L a = padTo L0 a) ∧ L.length ≤ 1000 ∧ Bk wr P 22 #[.slice A2 L.length c2] ∧ Oi wr W.heap.size A2 L.length c2 L ∧ Kb B0 bp bm W' wr) (fun wr => a - outLen wr P)
    case atStart => exact ⟨L0, A1, c1, Lib.hid rfl, by omega, hb1, ho1, Kb.refl _ _ _ _⟩
    case round =>
      obtain ⟨L, A2, c2, HPAD, hL, hbk, hoi, hkb⟩ := hrel
      have hsz2 : W.heap.size ≤ wr.heap.size := Nat.le_trans hsz1 hkb.others.size
      have c0 : wr.cell? ⟨P, 0, none⟩ = some (.slice A2 L.length c2) := hbk.cell 0
      have f0 := hbk.frozen 0
      obtain ⟨len, HLEN⟩ : ∃ len : Nat, Hid (L.length = len) := ⟨_, Lib.hid rfl⟩
      rw [HLEN.out] at c0 hbk hoi hL
      have HM := Lib.hid (outLen_of hbk)
      have hcap : len ≤ c2 := by
        rcases hoi.2 with ⟨h', h2⟩ | ⟨g', cap', cur, h', _, _, h4, _⟩
        · cases h'; omega
        · cases h'; exact h4
      have hkP := hbk.lt
      have hPcells : ∀ w3 : World, (∃ A3 n3 c3, Bk w3 P 22 #[.slice A3 n3 c3]) → ∃ o : Obj, w3.heap[P]? = some o ∧ o.isCells = true := fun w3 ⟨_, _, _, h⟩ => h.cells
      have hrow : ∀ r, A2.map Addr.block = some r → B0 ≤ r ∧ r ≠ bp ∧ r ≠ bm ∧ r ≠ P ∧ r < wr.heap.size := fun r e => by
        have := hoi.lt r e
        omega
      have HNE : A2.map Addr.block ≠ some P := fun e => (hrow P e).2.2.2.1 rfl
      by_cases hlt : len < a
      · have hl1000 : len < 1000 := by omega
        gi_wp2_with (refine push_full_in rfl (.tmp 22) (.tmp 23) rfl W.heap.size A2 len c2 L rfl (hoi.alloc _) ⟨wr.heap.size, 0, none⟩ 1 1000 rfl (cell_new1 _ _ _) (by omega) ?_; intro g3 cap3 w3 ho3 hgr3; have hb3 : Bk w3 P 22 #[.slice A2 len c2] := (hbk.alloc _).grown hgr3 (by simp); have c3 : w3.cell? ⟨P, 0, none⟩ = some (.slice A2 len c2) := hb3.cell 0; have f3 := hb3.frozen 0)
        have hk1 := hkb.grow (World.grownBy_alloc wr (.cells #[.int .i64 1000] 2) none) (by omega) (by omega) (by omega) (fun r e => by cases e)
        have hk2 := hk1.grow hgr3 (by simp; omega) (by simp; omega) (by simp; omega) (fun r e => by cases e)
        have hk3 := hk2.grow (grown_set w3 ⟨P, 0, none⟩ (.slice (some ⟨g3, 0, none⟩) (len + 1) cap3)) (by have := hk2.others.size; omega) (by have := hk2.others.size; omega) (by have := hk2.others.size; omega) (fun r e => by cases e; exact ⟨hP, hPp, hPm, hb3.cells⟩)
        have hb4 := hb3.set_ 0 (.slice (some ⟨g3, 0, none⟩) (len + 1) cap3)
        have hgne : g3 ≠ P := by have := (ho3.lt g3 rfl).1; simp at this; omega
        have HL2 : Hid ((L ++ [(1000 : Int)]).length = len + 1) := Lib.hid (by rw [List.length_append, HLEN.out]; rfl)
        have HPAD2 : Hid (padTo (L ++ [1000]) a = padTo L0 a) := Lib.hid (by rw [padTo_snoc (by rw [HLEN.out]; exact hlt)]; exact HPAD.out)
        have ho4 : Oi (w3.setCell ⟨P, 0, none⟩ (.slice (some ⟨g3, 0, none⟩) (len + 1) cap3)) W.heap.size (some ⟨g3, 0, none⟩) (len + 1) cap3 (L ++ [1000]) := (ho3.setOther (p := ⟨P, 0, none⟩) (by simp; omega) _).base (by simp; omega)
        have HM2 := Lib.hid (outLen_of hb4)
        go_roundw
        case rel => exact ⟨L ++ [1000], some ⟨g3, 0, none⟩, cap3, HPAD2, by rw [HL2.out]; omega, by rw [HL2.out]; exact hb4, by rw [HL2.out]; exact ho4, hk3⟩
        case measure => rw [HM.out, HM2.out]; omega
      · have HPD : Hid (padTo L0 a = L) := Lib.hid (by rw [← HPAD.out, padTo_done (by rw [HLEN.out]; omega)])
        have HLZ : Hid ((L ++ [z]).length = len + 1) := Lib.hid (by rw [List.length_append, HLEN.out]; rfl)
        gi_wp2_with (refine push_in rfl (.tmp 25) (.tmp 27) rfl W.heap.size A2 len c2 L rfl (hoi.alloc _) ⟨wr.heap.size, 0, none⟩ 1 z rfl (cell_new1 _ _ _) (by omega) (by simp; omega) ?_; intro g3 cap3 w3 ho3 hgr3; have hb3 : Bk w3 P 22 #[.slice A2 len c2] := (hbk.alloc _).grown hgr3 HNE.symm; have c3 : w3.cell? ⟨P, 0, none⟩ = some (.slice A2 len c2) := hb3.cell 0; have f3 := hb3.frozen 0)
        have hk1 := hkb.grow (World.grownBy_alloc wr (.cells #[.int .i64 z] 2) none) (by omega) (by omega) (by omega) (fun r e => by cases e)
        have hk2 := hk1.grow hgr3 (by simp; omega) (by simp; omega) (by simp; omega) (fun r e => by
          have h := hrow r e
          exact ⟨h.1, h.2.1, h.2.2.1, (hoi.alloc _).cells e⟩)
        have hk3 := hk2.grow (grown_set w3 ⟨P, 0, none⟩ (.slice (some ⟨g3, 0, none⟩) (len + 1) cap3)) (by have := hk2.others.size; omega) (by have := hk2.others.size; omega) (by have := hk2.others.size; omega) (fun r e => by cases e; exact ⟨hP, hPp, hPm, hb3.cells⟩)
        have hb4 := hb3.set_ 0 (.slice (some ⟨g3, 0, none⟩) (len + 1) cap3)
        have hgne : g3 ≠ P := by have := (ho3.lt g3 rfl).1; omega
        have ho4 : Oi (w3.setCell ⟨P, 0, none⟩ (.slice (some ⟨g3, 0, none⟩) (len + 1) cap3)) W.heap.size (some ⟨g3, 0, none⟩) (len + 1) cap3 (L ++ [z]) := ho3.setOther (p := ⟨P, 0, none⟩) (by simp; omega) _
        refine ⟨⟨hk3.others.size, fun k o _ hk hc => hk3.others.same k o hk hc⟩, hk3.kp, ?_, hbel.trans hk3.below, Nat.le_trans hsz1 hk3.others.size, by simp; omega⟩
        rw [HOUT.out, HPD.out]
        exact ⟨some ⟨g3, 0, none⟩, cap3, by rw [HLZ.out]; exact hb4, by rw [HLZ.out]; exact ho4⟩
  case done =>
    rintro D xs W' hD rfl ⟨h1, h2, _, _⟩ hK
    exact hQ D W' h1 h2 hK hD
  case stop =>
    rintro D c0 pre W' hD _ h hK
    exact h.elim

set_option maxHeartbeats 400000 in
theorem dPayable (g : Addr) (M : Int) (w : World) :
    Calls Try.prog 82 #[.pointer (some g), .int .i64 M] w fun e w' => e = .returned (.func (.func 86) #[] #[.pointer (some ⟨w.heap.size, 0, none⟩), .pointer (some ⟨w.heap.size + 1, 0, none⟩)]) ∧
      (w.alloc (.cells #[.pointer (some g)] 62)).alloc (.cells #[.int .i64 M] 2) = w' := by
  go_enter Try.func82, Try.ntmps82
  go_wp2
  go_ret
  exact ⟨rfl, rfl⟩
set_option maxRecDepth 100000 in
set_option maxHeartbeats 2000000 in
theorem dHeights (g m N : Nat) (A : Option Addr) (nc c : Nat) (st cs : List Int) (M : Nat) (hM : M ≤ 300) (f : Int × Int → Option Int) (HG : Hid (Good cs)) (w : World) (ht : Till w g m N A nc c st f) (hx : Ri w w.heap.size A nc cs) :
    Calls Try.prog 62 #[.pointer (some ⟨g, 0, none⟩), .int .i64 (M : Int)] w (RetL w (heightsL cs M)) := by
  have kg := ht.bk
  have hgl := kg.lt
  clear ht
  have hmf : ∀ (fn : Fn) (first cap : Array Value) (w : World), (Instr.makeFunc fn first cap).run Try.prog w = .ok (.func fn first cap) w := fun _ _ _ _ => rfl
  refine (callsIn_wide (n := 5)).1 ?_
  refine callsIn_of_wp_marks Try.func62 rfl trivial ?_ rfl
  simp only [Try.ntmps62, List.size_toArray, List.length_cons, List.length_nil, Nat.reduceAdd, Nat.reduceSub, Array.replicate_succ, Array.replicate_zero, List.push_toArray, List.append_toArray, List.nil_append, List.cons_append]
  refine wpIn_wide.2 ?_
  go_wp2_with (go_at_call 82; refine (dPayable _ _ _).mono ?_; rintro e w' ⟨rfl, rfl⟩)
  have e1 := ((Bk.new w 22 #[.slice none 0 0]).alloc (.cells #[.pointer (some ⟨g, 0, none⟩)] 62)).alloc (.cells #[.int .i64 (M : Int)] 2)
  have e2 := (Bk.new (w.alloc (.cells #[.slice none 0 0] 22)) 62 #[.pointer (some ⟨g, 0, none⟩)]).alloc (.cells #[.int .i64 (M : Int)] 2)
  have e3 := Bk.new ((w.alloc (.cells #[.slice none 0 0] 22)).alloc (.cells #[.pointer (some ⟨g, 0, none⟩)] 62)) 2 #[.int .i64 (M : Int)]
  simp only [World.size_alloc] at e2 e3
  have hx3 := ((hx.alloc (Nat.le_refl _) (.cells #[.slice none 0 0] 22)).alloc (by simp) (.cells #[.pointer (some ⟨g, 0, none⟩)] 62)).alloc (by simp; omega) (.cells #[.int .i64 (M : Int)] 2)
  refine ht_range w.heap.size g w.heap.size (w.heap.size + 1) (w.heap.size + 1 + 1) m A nc c st cs M hM HG _ _ _ _ _ _ _ _ _ _ _ _ _ _ _ _ _ _ _ _ _ _ _ _ _ _ _ _ _ _ _ _ _ _ _ _ hgl (Nat.le_refl _) (by omega) (by omega) hx3 (((kg.alloc _).alloc _).alloc _) e1 e2 e3 ?_
  intro D W' hOut hbel hD hDW
  have hDb : w.heap.size ≤ D := by simp only [World.size_alloc] at hDW; omega
  have hbel2 : Below w.heap.size w W' := ((((Below.refl w.heap.size w).alloc (Nat.le_refl _) _).alloc (by simp) _).alloc (by simp; omega) _).trans hbel
  obtain ⟨A1, c1, hbP, hoP⟩ := hOut
  simp only [World.size_alloc] at hoP
  have hoP2 := hoP.base (base' := w.heap.size) (by omega)
  obtain ⟨L1, HL1⟩ : ∃ L, Hid (outOf (py cs (M + 1)) = L) := ⟨_, Lib.hid rfl⟩
  have HPP := Lib.hid (pad_py cs (M + 1) (by omega))
  have HPAD1 : Hid (padTo L1 (M + 1) = heightsL cs M) := Lib.hid (by rw [← HL1.out, HPP.out.2, hp_heights])
  have HLEN1 : Hid (L1.length ≤ M + 1) := Lib.hid (by rw [← HL1.out]; exact HPP.out.1)
  rw [HL1.out] at hbP hoP2
  clear hbel e1 e2 e3 hoP hDW hx3 hmf HPP
  go_wp2
  go_loopw [] (fun wr => ∃ (L : List Int) (A2 : Option Addr) (c2 : Nat), Hid (padTo L (M + 1) = heightsL cs M) ∧ L.length ≤ M + 1 ∧ Bk wr w.heap.size 22 #[.slice A2 L.length c2] ∧ Oi wr w.heap.size A2 L.length c2 L ∧ Below w.heap.size w wr ∧ Hid (wr.heap[D]? = some (.deferred (some [])))) (fun wr => M + 1 - outLen wr w.heap.size)
  case atStart => exact ⟨L1, A1, c1, HPAD1, HLEN1.out, hbP, hoP2, hbel2, Lib.hid hD⟩
  case round =>
    obtain ⟨L, A2, c2, HPAD, hL, hbk, hoi, hb, HD⟩ := hrel
    have hsz := hb.size
    have c0 : wr.cell? ⟨w.heap.size, 0, none⟩ = some (.slice A2 L.length c2) := hbk.cell 0
    have f0 := hbk.frozen 0
    obtain ⟨len, HLEN⟩ : ∃ len : Nat, Hid (L.length = len) := ⟨_, Lib.hid rfl⟩
    rw [HLEN.out] at c0 hbk hoi hL
    have HM := Lib.hid (outLen_of hbk)
    have HNE : A2.map Addr.block ≠ some w.heap.size := fun e => (hoi.bk_ne hbk (by decide)) e.symm
    have hkP := hbk.lt
    have hDne : some D ≠ A2.map Addr.block := fun e => by
      obtain ⟨o, h1, h2⟩ := hoi.cells e.symm
      rw [HD.out] at h1
      cases h1
      cases h2
    have hDP : D ≠ w.heap.size := fun e => by
      have h1 : wr.heap[w.heap.size]? = some (.cells _ _ _) := hbk
      have h2 := HD.out
      rw [e, h1] at h2
      cases h2
    have hDl : D < wr.heap.size := (Array.getElem?_eq_some_iff.1 HD.out).1
    by_cases hlt : len < M + 1
    · go_wp2_with (at_builtin; refine push_int rfl (.tmp 33) (.tmp 34) rfl w.heap.size A2 len c2 L rfl (hoi.alloc _) ⟨wr.heap.size, 0, none⟩ 1 1000 rfl (cell_new1 _ _ _) (by omega) (by simp; omega) ?_; intro g3 cap3 w3 ho3 hgr3; have hb3 : Bk w3 w.heap.size 22 #[.slice A2 len c2] := (hbk.alloc _).grown hgr3 HNE.symm; have c3 : w3.cell? ⟨w.heap.size, 0, none⟩ = some (.slice A2 len c2) := hb3.cell 0; have f3 := hb3.frozen 0)
      have hb1 := hb.alloc hsz (.cells #[.int .i64 1000] 2)
      have hb2 := hb1.grown hgr3 (by simp; omega) (fun k e => (hoi.lt k e).1)
      have hb4 := hb2.setCell (p := ⟨w.heap.size, 0, none⟩) (Nat.le_refl _) (.slice (some ⟨g3, 0, none⟩) (len + 1) cap3)
      have hbk4 := hb3.set_ 0 (.slice (some ⟨g3, 0, none⟩) (len + 1) cap3)
      have hne3 : (some ⟨g3, 0, none⟩ : Option Addr).map Addr.block ≠ some w.heap.size := fun e => (ho3.bk_ne hb3 (by decide)) e.symm
      have ho4 : Oi (w3.setCell ⟨w.heap.size, 0, none⟩ (.slice (some ⟨g3, 0, none⟩) (len + 1) cap3)) w.heap.size (some ⟨g3, 0, none⟩) (len + 1) cap3 (L ++ [1000]) := ho3.setOther (p := ⟨w.heap.size, 0, none⟩) hne3.symm _
      have HD3 : Hid ((w3.setCell ⟨w.heap.size, 0, none⟩ (.slice (some ⟨g3, 0, none⟩) (len + 1) cap3)).heap[D]? = some (.deferred (some []))) := Lib.hid (by
        rw [Below.heap_setCell w3 ⟨w.heap.size, 0, none⟩ _ D hDP, hgr3.block D (by simp; omega) hDne, Below.heap_alloc wr _ D hDl]
        exact HD.out)
      have HL2 : Hid ((L ++ [(1000 : Int)]).length = len + 1) := Lib.hid (by rw [List.length_append, HLEN.out]; rfl)
      have HPAD2 : Hid (padTo (L ++ [1000]) (M + 1) = heightsL cs M) := Lib.hid (by rw [padTo_snoc (by rw [HLEN.out]; exact hlt)]; exact HPAD.out)
      have HM2 := Lib.hid (outLen_of hbk4)
      go_roundw
      case rel => exact ⟨L ++ [1000], some ⟨g3, 0, none⟩, cap3, HPAD2, by rw [HL2.out]; omega, by rw [HL2.out]; exact hbk4, by rw [HL2.out]; exact ho4, hb4, HD3⟩
      case measure => rw [HM.out, HM2.out]; omega
    · have HE : Hid (L = heightsL cs M) := Lib.hid (by rw [← HPAD.out, padTo_done (by rw [HLEN.out]; omega)])
      rw [HE.out] at hoi
      go_wp2
      have hgr := grownBy_putObj' wr D (.deferred none)
      have hn : ∀ r, some D = some r → w.heap.size ≤ r ∧ ∃ o : Obj, wr.heap[r]? = some o ∧ o.isCells = false := fun r e => by cases e; exact ⟨hDb, _, HD.out, rfl⟩
      refine ⟨by simp, .inl ⟨_, _, rfl, run_takeDeferred HD.out, ?_⟩⟩
      refine ⟨_, results_tmp rfl _ _ _, A2, len, c2, rfl, ?_, ?_⟩
      · exact Oi.from_ (β := Unit) w.heap.size _ _ _ _ _ () wr _ _ hoi hgr hn
      · exact hb.grown hgr hsz (fun k e => by cases e; exact hDb)
end Go.Proofs.Ytloibnmhgocboaa
