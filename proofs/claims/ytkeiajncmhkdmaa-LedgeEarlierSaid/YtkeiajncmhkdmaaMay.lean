import Derived.Test.YtkeiajncmhkdmaaL6
import Derived.Test.YtkeiajncmhkdmaaL18
namespace Go.Proofs.Ytkeiajncmhkdmaa
open Go.RowKit Go.Shelf
attribute [local go_sem] Oper.semAt_some
/-- Two blocks are as they were. -/
def Sm (a b : Nat) (A B : World) : Prop := B.heap[a]? = A.heap[a]? ∧ B.heap[b]? = A.heap[b]?
theorem Sm.refl (a b : Nat) (A : World) : Sm a b A A := ⟨rfl, rfl⟩
theorem Sm.trans {a b : Nat} {A B C : World} (h : Sm a b A B) (k : Sm a b B C) : Sm a b A C := ⟨k.1.trans h.1, k.2.trans h.2⟩
theorem Sm.cell {a b : Nat} {A B : World} (h : Sm a b A B) {i : Nat} : B.cell? ⟨a, i, none⟩ = A.cell? ⟨a, i, none⟩ := by
  unfold World.cell?
  rw [h.1]
theorem smK_b {a b n₀ : Nat} (ha : a < n₀) (hb : b < n₀) (W : World) (l : Nat) (o o' : Obj) (hl : n₀ ≤ l) (hx : W.heap[l]? = some o) (_ : o.isCells = false) (_ : o.isWalk = false) : Sm a b W (W.putObj l o') :=
  ⟨(grownBy_putObj' W l o').block a (by have := (Array.getElem?_eq_some_iff.1 hx).1; omega) (fun e => by cases e; omega), (grownBy_putObj' W l o').block b (by have := (Array.getElem?_eq_some_iff.1 hx).1; omega) (fun e => by cases e; omega)⟩

set_option maxRecDepth 100000 in
set_option maxHeartbeats 1000000 in
theorem freeS_in (F : Fence) (n : Nat) (hF : F.fn 71) (hro : F.round = none) (hn : 1 ≤ n) (l bp bf g n₀ a b : Nat) (wh : Bool) (L : List Int) (A : Option Addr) (m c : Nat) (s : Int) (hb8 : b ≤ 8) (hab : a ≤ b)
    (_hbp : bp < n₀) (_hg : g < n₀) (J Jx : List (Free L) → World → Prop)
    (hY : ∀ pre x W, J pre W → pre.length < 9 → YieldAt F (n - 1) Try.prog l #[.int .i64 ((x : Free L).1 : Int)] W fun e W' =>
      (e = .returned (.bool true) ∧ J (pre ++ [x]) W' ∧ Sm bp g W W') ∨ (e = .returned (.bool false) ∧ Jx (pre ++ [x]) W'))
    (W : World) (hcp : W.cell? ⟨bp, 0, none⟩ = some (.pointer (some ⟨g, 0, none⟩))) (hcf : W.cell? ⟨bf, 0, none⟩ = some (.int .i64 (a : Int)))
    (hpu : W.heap[g]? = some (.cells (puCells (b : Int) wh L A m c s) 64 (0, 0))) (h0 : J [] W) :
    CallsIn F n Try.prog 71 #[.func (.yield l) #[] #[], .pointer (some ⟨bf, 0, none⟩), .pointer (some ⟨bp, 0, none⟩)] W fun e W' => (∃ v, e = .returned v) ∧
      ((∃ ys, ys = yl L a b ∧ J ys W') ∨ (∃ pre, (∃ k, k < b ∧ a ≤ k ∧ (k : Int) ∉ L ∧ pre = yl L a (k + 1)) ∧ Jx pre W')) := by
  refine callsIn_of_wp Try.func71 rfl hF ?_ hro
  simp only [Try.ntmps71, List.size_toArray, List.length_cons, List.length_nil, Nat.reduceAdd, Nat.reduceSub, Array.replicate_succ, Array.replicate_zero, List.push_toArray, List.append_toArray, List.nil_append, List.cons_append]
  gi_wp2
  gi_loopw [4] (fun i wr => ∃ k : Nat, a ≤ k ∧ k ≤ b ∧ i = .int .i64 k ∧ J (yl L a k) wr ∧ Sm bp g W wr) (fun i _ => b - (intOf i).toNat)
  case atStart => exact ⟨a, Nat.le_refl _, hab, rfl, by rw [yl_start L a a (Nat.le_refl _)]; exact h0, Sm.refl _ _ _⟩
  case round =>
    obtain ⟨k, hak, hk, rfl, hJs, hnx⟩ := hrel
    have hcp' := hnx.cell.trans hcp
    have hpu' := hnx.2.trans hpu
    have hc0 : wr.cell? ⟨g, 0, none⟩ = some (.int .i64 (b : Int)) := pu_cell hpu' 0
    by_cases hlt : k < b
    · have hc1 := pu_taken hpu' (k := k) (by omega)
      clear hpu'
      by_cases hm : (k : Int) ∈ L
      · have HX := Lib.hid (yl_no (a := a) hm)
        rw [tkI_yes hm] at hc1
        clear hm
        gi_wp2
        refine ⟨fun _ h => (by cases h), ?_⟩
        gi_wp2
        go_roundw
        case rel => exact ⟨k + 1, by omega, by omega, by go_num, by rw [HX.out]; exact hJs, hnx⟩
        case measure => simp [intOf]; omega
      · have HX := Lib.hid (yl_yes (a := a) (b := k) (by omega) hak hm)
        rw [tkI_no hm] at hc1
        obtain ⟨fn, tmps, assign, body, hy, hR⟩ := hY _ ⟨k, by omega, hm⟩ wr hJs (by have := yl_le L a k; omega)
        have HM := Lib.hid hm
        dsimp only at hy
        gi_wp2
        refine hR.mono ?_
        rintro e W3 (⟨rfl, hJ3, hk3⟩ | ⟨rfl, hJx3⟩)
        · gi_wp2
          go_roundw
          case rel => exact ⟨k + 1, by omega, by omega, by go_num, by rw [HX.out]; exact hJ3, hnx.trans hk3⟩
          case measure => simp [intOf]; omega
        · gi_wp2
          refine bodyPost_ret (results_none rfl _ _ _) rfl ?_
          exact ⟨⟨_, rfl⟩, .inr ⟨_, ⟨k, hlt, hak, HM.out, HX.out.symm⟩, hJx3⟩⟩
    · obtain rfl : k = b := by omega
      clear hpu'
      gi_wp2
      go_end0
      exact ⟨⟨_, rfl⟩, .inl ⟨_, rfl, hJs⟩⟩

theorem freeS_stops (F : Fence) (n : Nat) (hF : F.fn 71) (hro : F.round = none) (hn : 1 ≤ n) (bp bf g n₀ a b : Nat) (wh : Bool) (L : List Int) (A : Option Addr) (m c : Nat) (s : Int) (hb8 : b ≤ 8) (hab : a ≤ b) (w : World)
    (hbp : bp < n₀) (hbf : bf < n₀) (hg : g < n₀) (hn₀ : n₀ ≤ w.heap.size) (hcp : w.cell? ⟨bp, 0, none⟩ = some (.pointer (some ⟨g, 0, none⟩))) (hcf : w.cell? ⟨bf, 0, none⟩ = some (.int .i64 (a : Int)))
    (hpu : w.heap[g]? = some (.cells (puCells (b : Int) wh L A m c s) 64 (0, 0))) :
    SeqStopsK F n Try.prog 71 #[.pointer (some ⟨bf, 0, none⟩), .pointer (some ⟨bp, 0, none⟩)] (fun x : Free L => #[.int .i64 (x.1 : Int)]) (Sm bp g) (fun ys => ys = yl L a b)
      (fun pre => ∃ k, k < b ∧ a ≤ k ∧ (k : Int) ∉ L ∧ pre = yl L a (k + 1)) 9 w := fun l J Jx W hW _ _ hY h0 =>
  freeS_in F n hF hro hn l bp bf g n₀ a b wh L A m c s hb8 hab hbp hg J Jx hY W ((hW.cell (p := ⟨bp, 0, none⟩) (Nat.lt_of_lt_of_le hbp hn₀)).trans hcp) ((hW.cell (p := ⟨bf, 0, none⟩) (Nat.lt_of_lt_of_le hbf hn₀)).trans hcf) ((hW.block g (Nat.lt_of_lt_of_le hg hn₀)).trans hpu) h0
end Go.Proofs.Ytkeiajncmhkdmaa

namespace Go.Proofs.Ytkeiajncmhkdmaa
open Go.RowKit Go.Shelf
attribute [local go_sem] Oper.semAt_some

noncomputable def mayRange : Code := ((Try.f30.body.bind firstRangeWhole).getD .skip)
/-- One more than the last of them. -/
def lastOf {L : List Int} (ys : List (Free L)) : Int := match ys.getLast? with
  | none => 0
  | some x => (x.1 : Int) + 1
theorem lastOf_snoc {L : List Int} (ys : List (Free L)) (x : Free L) : lastOf (ys ++ [x]) = (x.1 : Int) + 1 := by simp [lastOf]
theorem lastOf_nil {L : List Int} : lastOf ([] : List (Free L)) = 0 := rfl
set_option maxRecDepth 100000 in
set_option maxHeartbeats 2000000 in
theorem may_range (b g base P FB PB : Nat) (wh : Bool) (A : Option Addr) (n c : Nat) (L : List Int) (s : Int) (W : World) (Q : Exit → Act → World → Prop) (ds : List Deferred) (u0 u1 u2 u3 u4 u5 u6 u7 u8 u9 u11 u12 u13 u14 u15 u16 u17 u18 u19 u20 u21 u22 u23 u24 u25 u27 u28 u29 u30 u31 u32 u33 u34 u35 u36 u37 u38 u39 : Value)
    (hb8 : b ≤ 8) (hgP : g ≠ P) (hPP : PB ≠ P) (hbP : base ≤ P)
    (kP : Bk W P 3 #[.int .i64 (-1)]) (kf : Bk W FB 3 #[.int .i64 ((0 : Nat) : Int)]) (kp : Bk W PB 56 #[.pointer (some ⟨g, 0, none⟩)])
    (kg : Bk W g 64 (puCells (b : Int) wh L A n c s))
    (hQ : ∀ (D : Nat) (W' : World), Bk W' P 3 #[.int .i64 (lastOf (yl L 0 b) - 1)] → Below base W W' → W'.heap[D]? = some (.deferred (some [])) → W.heap.size ≤ D → Q .normal ⟨#[u0, u1, u2, u3, u4, u5, u6, u7, u8, u9, .pointer (some ⟨P, 0, none⟩), u11, u12, u13, u14, u15, u16, u17, u18, u19, u20, u21, u22, u23, u24, u25, .func (.func 71) #[] #[.pointer (some ⟨FB, 0, none⟩), .pointer (some ⟨PB, 0, none⟩)], u27, u28, u29, u30, u31, u32, u33, u34, u35, u36, u37, u38, u39], { target := .collected D, args := #[] } :: ds⟩ W') :
    mayRange.wp Try.prog Q ⟨#[u0, u1, u2, u3, u4, u5, u6, u7, u8, u9, .pointer (some ⟨P, 0, none⟩), u11, u12, u13, u14, u15, u16, u17, u18, u19, u20, u21, u22, u23, u24, u25, .func (.func 71) #[] #[.pointer (some ⟨FB, 0, none⟩), .pointer (some ⟨PB, 0, none⟩)], u27, u28, u29, u30, u31, u32, u33, u34, u35, u36, u37, u38, u39], ds⟩ W := by
  conv => arg 2; whnf
  have hsb : base ≤ W.heap.size := by have := kP.lt; omega
  refine (wpIn_wide (n := 5)).1 ?_
  refine wpIn_rangeFunc_ownG rfl (by decide) (gf := 71) (lb := #[.pointer (some ⟨FB, 0, none⟩), .pointer (some ⟨PB, 0, none⟩)]) rfl trivial (enters_of Try.func71 (by kernel_rfl) rfl)
    (freeS_stops Fence.wide (5 - 1) trivial rfl (by decide) PB FB g W.heap.size 0 b wh L A n c s hb8 (Nat.zero_le _) W kp.lt kf.lt kg.lt (Nat.le_refl _) (kp.cell 0) (kf.cell 0) kg) Sm.trans (smK_b kp.lt kg.lt) (Below.refl _ _) (fun _ => rfl)
    (fun pre W' => Bk W' P 3 #[.int .i64 (lastOf pre - 1)] ∧ Below base W W')
    (fun _ _ _ => False)
    ?hI ?hIx ?h0 (fun x => ⟨#[u0, u1, u2, u3, u4, u5, u6, u7, u8, u9, .pointer (some ⟨P, 0, none⟩), .int .i64 (x.1 : Int), u12, u13, u14, u15, u16, u17, u18, u19, u20, u21, u22, u23, u24, u25, .func (.func 71) #[] #[.pointer (some ⟨FB, 0, none⟩), .pointer (some ⟨PB, 0, none⟩)], .int .i64 (x.1 : Int), u28, u29, u30, u31, u32, u33, u34, u35, u36, u37, u38, u39], []⟩) ?assign ?body ?done ?stop
  case hI => exact OwnFrom.and (fun s A C row hs hg hr => Bk.from_ (β := Unit) _ _ _ _ () A C row hs hg hr) (below_from hsb hsb)
  case hIx => exact fun _ _ _ _ _ h _ _ => h
  case h0 => exact ⟨kP, Below.refl _ _⟩
  case assign =>
    intro l x W' K hK
    gi_wp2
    exact hK
  case body =>
    rintro l pre x W' ⟨hP, hb'⟩ _
    have c0 := hP.cell 0
    have f0 := hP.frozen 0
    gi_wp2
    have e : lastOf (pre ++ [x]) - 1 = (x.1 : Int) := by rw [lastOf_snoc]; omega
    have h2 := hP.set_ 0 (.int .i64 (x.1 : Int))
    refine ⟨⟨by simp, fun k o _ hk hc => ?_⟩, ⟨Below.heap_setCell W' ⟨P, 0, none⟩ _ PB hPP, Below.heap_setCell W' ⟨P, 0, none⟩ _ g hgP⟩, by rw [e]; exact h2, hb'.setCell hbP _⟩
    have hkP : k ≠ P := fun he => by
      subst he
      rw [show W'.heap[k]? = _ from hP] at hk
      cases hk
      cases hc
    exact (Below.heap_setCell W' ⟨P, 0, none⟩ _ k hkP).trans hk
  case done =>
    rintro D xs W' hD rfl ⟨hP, hb'⟩ hK
    exact hQ D W' hP hb' hK hD
  case stop =>
    rintro D c0 pre W' hD _ h hK
    exact h.elim
end Go.Proofs.Ytkeiajncmhkdmaa

namespace Go.Proofs.Ytkeiajncmhkdmaa
open Go.RowKit Go.Shelf
attribute [local go_sem] Oper.semAt_some

theorem last_yl (L : List Int) : ∀ b : Nat, b ≤ 8 → ∃ m : Nat, lastOf (yl L 0 b) = m ∧ m ≤ b ∧ (∀ j : Nat, m ≤ j → j < b → (j : Int) ∈ L) ∧ (m = 0 ∨ ((m : Int) - 1) ∉ L) := by
  intro b
  induction b with
  | zero => intro _; exact ⟨0, by rw [yl_start L 0 0 (Nat.le_refl _)]; rfl, Nat.le_refl _, fun j _ h => by omega, .inl rfl⟩
  | succ b ih =>
    intro h8
    by_cases hm : (b : Int) ∈ L
    · obtain ⟨m, h1, h2, h3, h4⟩ := ih (by omega)
      refine ⟨m, by rw [yl_no hm]; exact h1, by omega, fun j hj hb => ?_, h4⟩
      by_cases he : j = b
      · subst he; exact hm
      · exact h3 j hj (by omega)
    · refine ⟨b + 1, by rw [yl_yes (by omega) (Nat.zero_le _) hm, lastOf_snoc]; rfl, Nat.le_refl _, fun j h1 h2 => by omega, .inr (by rw [show ((b + 1 : Nat) : Int) - 1 = (b : Int) by omega]; exact hm)⟩
theorem slid1_under {L : List Int} {b m i : Nat} (hm : m ≤ b) (hi : i < m) (hf : ((m : Int) - 1) ∉ L) : slid1 (b : Int) L (i : Int) < b := by
  have key : ∀ (d a : Nat), m - 1 - a = d → a ≤ m - 1 → slid1 (b : Int) L (a : Int) ≤ (m : Int) - 1 := by
    intro d
    induction d with
    | zero =>
      intro a h1 h2
      have ha : (a : Int) = (m : Int) - 1 := by omega
      rw [slid1_stop (fun h => hf (ha ▸ h.2))]
      omega
    | succ d ih =>
      intro a h1 h2
      by_cases hma : (a : Int) ∈ L
      · rw [slid1_go ⟨by omega, hma⟩]
        exact ih (a + 1) (by omega) (by omega)
      · rw [slid1_stop (fun h => hma h.2)]
        omega
  have := key (m - 1 - i) i rfl (by omega)
  omega
theorem mayIn_upTo {b m : Nat} {ds : List Int} (h0 : fellOf (b : Int) ds = 0) (hm : m ≤ b) (h1 : ∀ j : Nat, m ≤ j → j < b → (j : Int) ∈ lieOf (b : Int) ds) (h2 : m = 0 ∨ ((m : Int) - 1) ∉ lieOf (b : Int) ds) : mayIn (b : Int) ds b = upTo m := by
  have key : ∀ n : Nat, n ≤ b → mayIn (b : Int) ds n = upTo (min m n) := by
    intro n
    induction n with
    | zero => intro _; rw [Nat.min_zero]; rfl
    | succ n ih =>
      intro hn
      have hi := ih (by omega)
      have hs := fellOf_snoc (b := b) (ds := ds) (d := (n : Int)) (by omega)
      by_cases hlt : n < m
      · have h2' : ((m : Int) - 1) ∉ lieOf (b : Int) ds := h2.resolve_left (by omega)
        have h := slid1_under hm hlt h2'
        rw [mayIn_yes (by rw [hs, if_neg (by omega), h0]; rfl), hi, show min m n = n by omega, show min m (n + 1) = n + 1 by omega, upTo_succ]
      · have h := slid1_none (L := lieOf (b : Int) ds) (b := b) (b - n) n rfl (by omega) (fun j hj hb => h1 j (by omega) hb)
        rw [mayIn_no (by rw [hs, if_pos h, h0]; omega), hi, show min m n = m by omega, show min m (n + 1) = m by omega]
  rw [key b (Nat.le_refl _), Nat.min_eq_left hm]

theorem lMay_err (p : Int) (A : Option Addr) (n c : Nat) (ds : List Int) (w : World) (hx : Ri w w.heap.size A n ds) (hn : n ≤ 1099511627776) (r : Int) (HR : Hid (checkDrops p ds = r)) (h0 : (r != 0) = true) :
    Calls Try.prog 30 #[.int .i64 p, .slice A n c] w fun e w' => e = .returned (.tuple #[.slice none 0 0, .int .i64 r]) ∧ Below w.heap.size w w' := by
  go_enter Try.func30, Try.ntmps30
  go_wp2_with (go_at_call 32; refine (lCheckRow_err _ _ _ _ _ _ hx hn _ HR h0).mono ?_; rintro e w1 ⟨rfl, hb⟩)
  go_ret2
  exact ⟨rfl, hb⟩
theorem lMay_fell (b : Nat) (A : Option Addr) (n c : Nat) (ds : List Int) (w : World) (hx : Ri w w.heap.size A n ds) (hv : Valid (b : Int) ds) (h0 : 0 < fellOf (b : Int) ds) :
    Calls Try.prog 30 #[.int .i64 (b : Int), .slice A n c] w fun e w' => e = .returned (.tuple #[.slice none 0 0, .int .i64 20]) ∧ Below w.heap.size w w' := by
  have HQ : Hid (rowErr (fellOf (b : Int) ds) = 20) := Lib.hid (by rw [rowErr, if_pos h0])
  go_enter Try.func30, Try.ntmps30
  go_wp2_with (go_at_call 32; refine (lCheckRow_ok _ _ _ _ _ _ hx hv _ HQ).mono ?_; rintro e w1 ⟨rfl, hb⟩)
  go_ret2
  exact ⟨rfl, hb⟩

set_option maxRecDepth 100000 in
set_option maxHeartbeats 1000000 in
theorem lMay_ok (b : Nat) (A : Option Addr) (n c : Nat) (ds : List Int) (w : World) (hx : Ri w w.heap.size A n ds) (hv : Valid (b : Int) ds) (h0 : fellOf (b : Int) ds = 0) :
    Calls Try.prog 30 #[.int .i64 (b : Int), .slice A n c] w fun e w' => ∃ (A' : Option Addr) (n' c' : Nat), e = .returned (.tuple #[.slice A' n' c', .int .i64 0]) ∧ Oi w' w.heap.size A' n' c' (mayIn (b : Int) ds b) ∧ Below w.heap.size w w' := by
  have HQ : Hid (rowErr (fellOf (b : Int) ds) = 0) := Lib.hid (by rw [rowErr, if_neg (by omega)])
  have h8 := hv.hi
  have hb8 : b ≤ 8 := by omega
  obtain ⟨m, hm1, hm2, hm3, hm4⟩ := last_yl (lieOf (b : Int) ds) b hb8
  have HRES : Hid (mayIn (b : Int) ds b = upTo m) := Lib.hid (mayIn_upTo h0 hm2 hm3 hm4)
  have HM1 := Lib.hid hm1
  rw [HRES.out]
  clear hm1 hm3 hm4 h8 h0
  have hmf : ∀ (fn : Fn) (first cap : Array Value) (w : World), (Instr.makeFunc fn first cap).run Try.prog w = .ok (.func fn first cap) w := fun _ _ _ _ => rfl
  refine (callsIn_wide (n := 5)).1 ?_
  refine callsIn_of_wp_marks Try.func30 rfl trivial ?_ rfl
  simp only [Try.ntmps30, List.size_toArray, List.length_cons, List.length_nil, Nat.reduceAdd, Nat.reduceSub, Array.replicate_succ, Array.replicate_zero, List.push_toArray, List.append_toArray, List.nil_append, List.cons_append]
  refine wpIn_wide.2 ?_
  go_wp2_with fail
  refine (lCheckRow_ok _ _ _ _ _ _ hx hv _ HQ).mono ?_
  rintro e w1 ⟨rfl, hb⟩
  have hx1 := (hx.below hb).more hb.size
  go_wp2_with fail
  refine (lOpen _ _ _ _ _ _ _ hx1 hv (fun h => by cases h)).mono ?_
  rintro e w2 ⟨g, A1, c1, rfl, hp, hb2⟩
  have hbw2 : Below w.heap.size w w2 := hb.trans (hb2.mono hb.size)
  have hs2 := hbw2.size
  rw [runW_lie, runW_slid] at hp
  have kg : Bk w2 g 64 _ := hp.2.1
  have hgl : g < w2.heap.size := kg.lt
  clear hp hx1 hb2 hb
  go_wp2_with (go_at_call 58; refine (pFree _ _ _).mono ?_; rintro e w' ⟨rfl, rfl⟩)
  have e1 := ((Bk.new w2 3 #[.int .i64 (-1)]).alloc (.cells #[.pointer (some ⟨g, 0, none⟩)] 56)).alloc (.cells #[.int .i64 ((0 : Nat) : Int)] 3)
  have e2 := (Bk.new (w2.alloc (.cells #[.int .i64 (-1)] 3)) 56 #[.pointer (some ⟨g, 0, none⟩)]).alloc (.cells #[.int .i64 ((0 : Nat) : Int)] 3)
  have e3 := Bk.new ((w2.alloc (.cells #[.int .i64 (-1)] 3)).alloc (.cells #[.pointer (some ⟨g, 0, none⟩)] 56)) 3 #[.int .i64 ((0 : Nat) : Int)]
  simp only [World.size_alloc] at e2 e3
  refine may_range b g w.heap.size w2.heap.size (w2.heap.size + 1 + 1) (w2.heap.size + 1) false A1 n c1 (lieOf (b : Int) ds) (farOf (b : Int) ds) _ _ _ _ _ _ _ _ _ _ _ _ _ _ _ _ _ _ _ _ _ _ _ _ _ _ _ _ _ _ _ _ _ _ _ _ _ _ _ _ _ hb8 (by omega) (by omega) hs2 e1 e3 e2 (((kg.alloc _).alloc _).alloc _) ?_
  intro D W' kP hbel hD hDW
  have hDb : w.heap.size ≤ D := by simp only [World.size_alloc] at hDW; omega
  clear hDW
  have hbel2 : Below w.heap.size w W' := (hbw2.trans ((((Below.refl w.heap.size w2).alloc hs2 _).alloc (by simp; omega) _).alloc (by simp; omega) _)).trans hbel
  rw [HM1.out] at kP
  have hsW : w.heap.size ≤ W'.heap.size := hbel2.size
  have c0 : W'.cell? ⟨w2.heap.size, 0, none⟩ = some (.int .i64 ((m : Int) - 1)) := kP.cell 0
  clear kP hbel e1 e2 e3
  have HD := Lib.hid hD
  clear hD
  have hDl : D < W'.heap.size := (Array.getElem?_eq_some_iff.1 HD.out).1
  have hw1 : IntKind.i64.wrap ((m : Int) - 1 + 1) = (m : Int) := by
    rw [show (m : Int) - 1 + 1 = (m : Int) by omega]
    exact IntWalk.i64_in _ (by omega)
  have hw2 : (m : Int) - 1 + 1 = (m : Int) := by omega
  have hm8 : m ≤ 8 := by omega
  go_wp2
  go_loopw [9, 31] (fun o i wr => ∃ (k c2 : Nat) (A2 : Option Addr), k ≤ m ∧ i = .int .i64 k ∧ o = .slice A2 k c2 ∧ Oi wr W'.heap.size A2 k c2 (upTo k) ∧ Below W'.heap.size W' wr) (fun _ i _ => m - (intOf i).toNat)
  case atStart => exact ⟨0, 0, none, by omega, rfl, rfl, Oi.nil_ _ _, Below.refl _ _⟩
  case round =>
    obtain ⟨k, c2, A2, hk, rfl, rfl, ho, hbk⟩ := hrel
    have hsz := hbk.size
    by_cases hlt : k < m
    · have HX := Lib.hid (upTo_succ k)
      go_wp2_with (at_builtin; refine push_int rfl (.tmp 34) (.tmp 36) rfl (W'.heap.size) A2 k c2 (upTo k) rfl (ho.alloc _) ⟨wr.heap.size, 0, none⟩ 1 _ rfl (cell_new1 _ _ _) (by omega) (by simp only [World.size_alloc]; omega) ?_; intro g cap w1 hown1 hgrow1)
      go_roundw
      case rel => exact ⟨k + 1, _, _, by omega, by go_num, rfl, by rw [HX.out]; exact hown1, ho.pushed hbk hsz (Nat.le_refl _) hgrow1⟩
      case measure => simp [intOf]; omega
    · have HK : Hid (k = m) := Lib.hid (by omega)
      go_wp2
      have hDr : wr.heap[D]? = some (.deferred (some [])) := (hbk.block D hDl).trans HD.out
      have hgr := grownBy_putObj' wr D (.deferred none)
      have hn : ∀ r, some D = some r → w.heap.size ≤ r ∧ ∃ o : Obj, wr.heap[r]? = some o ∧ o.isCells = false := fun r e => by cases e; exact ⟨hDb, _, hDr, rfl⟩
      refine ⟨by simp, .inl ⟨_, _, rfl, run_takeDeferred hDr, ?_⟩⟩
      refine ⟨_, results_tmp2 rfl _ _ _, A2, k, c2, rfl, ?_, ?_⟩
      · rw [HK.out] at ho ⊢
        exact Oi.from_ (β := Unit) w.heap.size _ _ _ _ _ () wr _ _ (ho.base hsW) hgr hn
      · exact (hbel2.trans (hbk.mono hsW)).grown hgr (Nat.le_trans hsW hsz) (fun k e => by cases e; exact hDb)
end Go.Proofs.Ytkeiajncmhkdmaa
