/-
  The program: 'Count'.
-/
import Derived.Test.YtaekjnjignlmoaaIt
import Derived.Laws.EntriesVeiled
namespace Go.Proofs.Ytaekjnjignlmoaa
open Go.RowKit Go.Shelf
attribute [local go_sem] Oper.semAt_some

/-- How many of some rounds are in time. -/
def goodN (b : Int) (ps : List (Int × Int)) (Ls : List (List Nat)) : Nat := Ls.countP (inTimeB b ps)
theorem goodN_le (b : Int) (ps : List (Int × Int)) (Ls : List (List Nat)) : goodN b ps Ls ≤ Ls.length := List.countP_le_length
theorem goodN_snoc (b : Int) (ps : List (Int × Int)) (Ls : List (List Nat)) (l : List Nat) : goodN b ps (Ls ++ [l]) = goodN b ps Ls + if inTimeB b ps l then 1 else 0 := by
  unfold goodN
  rw [List.countP_append]
  simp [List.countP_cons]
theorem goodN_all (b : Int) (ps : List (Int × Int)) : goodN b ps (allR b ps) = (goodR b ps).length := by
  unfold goodN goodR
  exact List.countP_eq_length_filter

set_option maxRecDepth 100000 in
set_option maxHeartbeats 1000000 in
theorem fCount_err (b : Int) (A : Option Addr) (n c : Nat) (ps : List (Int × Int)) (w : World) (hx : Rp w w.heap.size A n ps) (hn : n ≤ 1048576) (q : Int) (HP : Hid (checkPier b ps = q)) (hq : ¬ q = 0) :
    Calls Try.prog 28 #[.agg #[.int .i64 b, .slice A n c]] w (RetII w 0 q) := by
  have hbk0 := Bk.new w 24 #[.int .i64 b, .slice A n c]
  have hc0 : (w.alloc (.cells #[.int .i64 b, .slice A n c] 24)).cell? ⟨w.heap.size, 0, none⟩ = some (.int .i64 b) := hbk0.cell 0
  have hc1 : (w.alloc (.cells #[.int .i64 b, .slice A n c] 24)).cell? ⟨w.heap.size, 1, none⟩ = some (.slice A n c) := hbk0.cell 1
  have hb0 : Below w.heap.size w (w.alloc (.cells #[.int .i64 b, .slice A n c] 24)) := (Below.refl _ w).alloc (Nat.le_refl _) _
  have hx0 := hx.next hb0 (Nat.le_refl _) hb0.size
  go_enter Try.func28, Try.ntmps28
  go_wp2_with fail
  refine (fOpen_err b A n c ps _ hx0 hn q HP hq).mono ?_
  rintro e w1 ⟨rfl, hb⟩
  go_wp2
  go_ret2
  exact ⟨rfl, hb0.trans (hb.mono (by simp))⟩

set_option maxRecDepth 100000 in
set_option maxHeartbeats 2000000 in
theorem fCount_ok (b : Int) (A : Option Addr) (n c : Nat) (ps : List (Int × Int)) (w : World) (hx : Rp w w.heap.size A n ps) (hn : n ≤ 1048576) (hc : n ≤ c) (HP : Hid (Pier b ps)) :
    Calls Try.prog 28 #[.agg #[.int .i64 b, .slice A n c]] w (RetII w ((goodR b ps).length : Nat) 0) := by
  have HCP : Hid (checkPier b ps = 0) := Lib.hid (checkPier_ok.2 HP.out)
  have hbk0 := Bk.new w 24 #[.int .i64 b, .slice A n c]
  have hc0 : (w.alloc (.cells #[.int .i64 b, .slice A n c] 24)).cell? ⟨w.heap.size, 0, none⟩ = some (.int .i64 b) := hbk0.cell 0
  have hc1 : (w.alloc (.cells #[.int .i64 b, .slice A n c] 24)).cell? ⟨w.heap.size, 1, none⟩ = some (.slice A n c) := hbk0.cell 1
  have hb0 : Below w.heap.size w (w.alloc (.cells #[.int .i64 b, .slice A n c] 24)) := (Below.refl _ w).alloc (Nat.le_refl _) _
  have hx0 := hx.next hb0 (Nat.le_refl _) hb0.size
  have hmf : ∀ (fn : Fn) (first cap : Array Value) (w : World), (Instr.makeFunc fn first cap).run Try.prog w = .ok (.func fn first cap) w := fun _ _ _ _ => rfl
  refine (callsIn_wide (n := 5)).1 ?_
  refine callsIn_of_wp_marks Try.func28 rfl trivial ?_ rfl
  simp only [Try.ntmps28, List.size_toArray, List.length_cons, List.length_nil, Nat.reduceAdd, Nat.reduceSub, Array.replicate_succ, Array.replicate_zero, List.push_toArray, List.append_toArray, List.nil_append, List.cons_append]
  refine wpIn_wide.2 ?_
  go_wp2_with fail
  refine (fOpen_ok b A n c ps _ hx0 hn hc HCP).mono ?_
  rintro e w1 ⟨g, rfl, hw, hg, hb⟩
  have hb1 : Below w.heap.size w w1 := hb0.trans (hb.mono (by simp))
  clear hbk0 hc0 hc1 hb0 hx0 hb
  go_wp2_with fail
  refine (dRounds _ ⟨_, rfl⟩ _).mono ?_
  rintro e w' ⟨rfl, rfl⟩
  have e1 := ((Bk.new w1 3 #[.int .i64 0]).alloc (.cells #[.func (.func 70) #[.pointer (some ⟨g, 0, none⟩)] #[]] 95)).alloc (.cells #[.pointer (some ⟨g, 0, none⟩)] 79)
  have e2 := (Bk.new (w1.alloc (.cells #[.int .i64 0] 3)) 95 #[.func (.func 70) #[.pointer (some ⟨g, 0, none⟩)] #[]]).alloc (.cells #[.pointer (some ⟨g, 0, none⟩)] 79)
  have e3 := Bk.new ((w1.alloc (.cells #[.int .i64 0] 3)).alloc (.cells #[.func (.func 70) #[.pointer (some ⟨g, 0, none⟩)] #[]] 95)) 79 #[.pointer (some ⟨g, 0, none⟩)]
  have hbW : Below w1.heap.size w1 (((w1.alloc (.cells #[.int .i64 0] 3)).alloc (.cells #[.func (.func 70) #[.pointer (some ⟨g, 0, none⟩)] #[]] 95)).alloc (.cells #[.pointer (some ⟨g, 0, none⟩)] 79)) := (((Below.refl _ w1).alloc (Nat.le_refl _) _).alloc (by simp) _).alloc (by simp; omega) _
  simp only [World.size_alloc] at e1 e2 e3 ⊢
  obtain ⟨W0, hW0⟩ : ∃ W0, (((w1.alloc (.cells #[.int .i64 0] 3)).alloc (.cells #[.func (.func 70) #[.pointer (some ⟨g, 0, none⟩)] #[]] 95)).alloc (.cells #[.pointer (some ⟨g, 0, none⟩)] 79)) = W0 := ⟨_, rfl⟩
  have hs0 : w1.heap.size + 3 = W0.heap.size := by rw [← hW0]; simp
  rw [hW0] at e1 e2 e3 hbW ⊢
  clear hW0
  have HS0 := Lib.hid hs0
  clear hs0
  go_wp2_with fail
  refine rounds_range (w1.heap.size + 1 + 1) g n c w1.heap.size A b ps rfl HP e3 (hw.below hbW) (by have := HS0.out; omega)
    (fun pre W => Bk W w1.heap.size 3 #[.int .i64 (goodN b ps (pre.map El.l) : Nat)] ∧ Bk W (w1.heap.size + 1) 95 #[.func (.func 70) #[.pointer (some ⟨g, 0, none⟩)] #[]] ∧ Below w1.heap.size w1 W)
    (fun _ _ _ => False) ?hI ?hIx ⟨e1, e2, hbW⟩ ?a1 ?hassign ?hbody ?hdone ?hstop
  case hI => exact OwnFrom.and (fun s A' C row hs hg' hr => Bk.from_ (β := Unit) _ _ _ _ () A' C row hs hg' hr) (OwnFrom.and (Bk.from_ _ _ _ _) (below_from (by have := HS0.out; omega) (Nat.le_refl _)))
  case hIx => exact fun _ _ _ _ _ h _ _ => h
  case hassign =>
    intro l x W K hK
    gi_wp2
    exact hK
  case hbody =>
    rintro l pre ⟨xa, xc, xl⟩ W ⟨h1, h2, h3⟩ ⟨ho, hxL⟩ hpre
    dsimp only at ho hxL ⊢
    have hsW : w1.heap.size + 2 ≤ W.heap.size := h2.lt
    have c1 : W.cell? ⟨w1.heap.size + 1, 0, none⟩ = some (.func (.func 70) #[.pointer (some ⟨g, 0, none⟩)] #[]) := h2.cell 0
    have hxm := allR_iff.1 hxL
    have hwW := (hw.below h3).more h3.size
    have HL := Lib.hid hw.rp.len
    have hlen : xl.length ≤ 10 := by have := HP.out.hi; omega
    have HALL : Hid (∀ i ∈ xl, i < n) := Lib.hid (by rw [← HL.out]; exact hxm.2.2)
    have HSN : Hid (goodN b ps ((pre ++ [(⟨xa, xc, xl⟩ : El)]).map El.l) = goodN b ps (pre.map El.l) + if inTimeB b ps xl then 1 else 0) := Lib.hid (by rw [List.map_append]; exact goodN_snoc b ps _ _)
    have hgN := goodN_le b ps (pre.map El.l)
    have hm252 := allR_many HP.out
    obtain ⟨m, HM⟩ : ∃ m, Hid (goodN b ps (pre.map El.l) = m) := ⟨_, Lib.hid rfl⟩
    obtain ⟨k, HK⟩ : ∃ k, Hid (xl.length = k) := ⟨_, Lib.hid rfl⟩
    rw [HM.out] at h1 hgN
    rw [List.length_map] at hgN
    have hm : m ≤ 252 := by omega
    rw [HK.out] at ho hlen ⊢
    have hr := ho.ri
    clear hgN hpre hm252 hxm ho hxL
    cases hit : inTimeB b ps xl
    · have HSN2 : Hid (goodN b ps ((pre ++ [(⟨xa, xc, xl⟩ : El)]).map El.l) = m) := Lib.hid (by rw [HSN.out, HM.out, hit]; rfl)
      have HIT := Lib.hid hit
      clear hit
      gi_wp2_with fail
      refine ⟨trivial, ?_⟩
      refine (CallsIn.inRound l (callsIn_wide.2 (dInTime g n c A b ps _ hwW HP xa k xc xl hr hlen HALL))).mono ?_
      rintro e w2 ⟨rfl, hb2⟩
      rw [HIT.out]
      gi_wp2_with fail
      have hch : Chg (fun _ => False) W w2 := (Chg.refl _ W).below hb2 (Nat.le_refl _)
      refine ⟨hch.keeps _ (fun _ h => h.elim), hch.kr (fun _ h => h.elim) h3.size (fun _ _ h => h.elim), ?_, h2.below hb2 h2.lt, h3.trans (hb2.mono h3.size)⟩
      rw [HSN2.out]
      exact h1.below hb2 h1.lt
    · have HSN2 : Hid (goodN b ps ((pre ++ [(⟨xa, xc, xl⟩ : El)]).map El.l) = m + 1) := Lib.hid (by rw [HSN.out, HM.out, hit]; rfl)
      have HIT := Lib.hid hit
      clear hit
      gi_wp2_with fail
      refine ⟨trivial, ?_⟩
      refine (CallsIn.inRound l (callsIn_wide.2 (dInTime g n c A b ps _ hwW HP xa k xc xl hr hlen HALL))).mono ?_
      rintro e w2 ⟨rfl, hb2⟩
      rw [HIT.out]
      have k1 := h1.below hb2 h1.lt
      have d1 : w2.cell? ⟨w1.heap.size, 0, none⟩ = some (.int .i64 (m : Nat)) := k1.cell 0
      have f1 := k1.frozen 0
      gi_wp2_with fail
      have hch : Chg (fun k => k = w1.heap.size) W (w2.setCell ⟨w1.heap.size, 0, none⟩ (.int .i64 ((m : Int) + 1))) := Chg.setCell (X := fun k => k = w1.heap.size) (p := ⟨w1.heap.size, 0, none⟩) ((Chg.refl _ W).below hb2 (Nat.le_refl _)) (.inl rfl) _
      refine ⟨hch.keeps _ (fun k e => by subst e; exact h1.cells), hch.kr (fun k e => by omega) h3.size (fun k cs e hB => by have := HS0.out; omega), ?_, hch.bk h2 (by omega), h3.trans (hch.toBelow (fun k e => by omega) h3.size)⟩
      rw [HSN2.out]
      exact k1.set_ 0 _
  case hdone =>
    rintro D xs W hD hxs ⟨h1, _, h3⟩ hDW
    have HXS : Hid (goodN b ps (xs.map El.l) = (goodR b ps).length) := Lib.hid (by rw [hxs]; exact goodN_all b ps)
    rw [HXS.out] at h1
    have c1 : W.cell? ⟨w1.heap.size, 0, none⟩ = some (.int .i64 ((goodR b ps).length : Nat)) := h1.cell 0
    have hb2 : Below w.heap.size w W := hb1.trans (h3.mono hb1.size)
    have hDb : w.heap.size ≤ D := by have := HS0.out; have := hb1.size; omega
    have HD := Lib.hid hDW
    clear hDW hxs
    go_wp2
    refine ⟨by simp, .inl ⟨_, _, rfl, run_takeDeferred HD.out, ?_⟩⟩
    refine ⟨_, results_tmp2 rfl _ _ _, rfl, ?_⟩
    exact hb2.grown (grownBy_putObj' W D (.deferred none)) hb2.size (fun k e => by cases e; exact hDb)
  case hstop => exact fun _ _ _ _ _ _ h _ => h.elim
end Go.Proofs.Ytaekjnjignlmoaa
