/-
  The program: 'Within'.
-/
import Derived.Test.YtaekjnjignlmoaaH
import Derived.Test.YtaekjnjignlmoaaSq
namespace Go.Proofs.Ytaekjnjignlmoaa
open Go.RowKit Go.Shelf
attribute [local go_sem] Oper.semAt_some

theorem Oi.cap {w : World} {base n c : Nat} {A : Option Addr} {xs : List Int} (h : Oi w base A n c xs) : n ≤ c := by
  rcases h.2 with ⟨h', h2⟩ | ⟨g', cap', cur, h', _, _, h4, _⟩
  · cases h'; omega
  · cases h'; exact h4
/-- What a call that returns a range and an error comes to. -/
def RetRE (w : World) (x y r : Int) (e : Ending) (w' : World) : Prop := e = .returned (.tuple #[.agg #[.int .i64 x, .int .i64 y], .int .i64 r]) ∧ Below w.heap.size w w'
theorem isStruct_of {P : Program} {t : TypeId} (h : (match P.underlying t with | some (.struct _) => true | _ => false) = true) : ∃ fs, P.underlying t = some (.struct fs) := by
  cases hu : P.underlying t with
  | none => rw [hu] at h; cases h
  | some d =>
    rw [hu] at h
    cases d <;> first | exact ⟨_, rfl⟩ | cases h
theorem under_range : ∃ fs, Try.prog.underlying 43 = some (.struct fs) := isStruct_of (by kernel_rfl)
theorem results_range {fn : Func} {p q : Tmp} (h : fn.results = #[.cell p 43, .tmp q]) (tmps : Array Value) {w : World} {k : Nat} {x y : Int} (hp : tmps.getD p undef = .pointer (some ⟨k, 0, none⟩)) (hb : Bk w k 43 #[.int .i64 x, .int .i64 y]) :
    (results fn tmps).run Try.prog w = .ok (.tuple #[.agg #[.int .i64 x, .int .i64 y], tmps.getD q undef]) w := by
  obtain ⟨fs, hu⟩ := under_range
  have hp' : tmps[p]?.getD undef = .pointer (some ⟨k, 0, none⟩) := by simpa using hp
  have hl : (loadVar 43 ⟨k, 0, none⟩).run Try.prog w = .ok (.agg #[.int .i64 x, .int .i64 y]) w := run_loadVar_row w k _ 43 #[.int .i64 x, .int .i64 y] (0, 0) _ hb hu rfl (by kernel_rfl)
  simp [results, h, hp', asAddr, hl]

set_option maxRecDepth 100000 in
set_option maxHeartbeats 1000000 in
theorem fRange_err (b : Int) (A : Option Addr) (n c : Nat) (ps : List (Int × Int)) (s : Int) (w : World) (hx : Rp w w.heap.size A n ps) (hn : n ≤ 1048576) (q : Int) (HP : Hid (checkPier b ps = q)) (hq : ¬ q = 0) :
    Calls Try.prog 31 #[.agg #[.int .i64 b, .slice A n c], .int .i64 s] w (RetRE w 0 0 q) := by
  have hbk0 := ((Bk.new w 24 #[.int .i64 b, .slice A n c]).alloc (.cells #[.int .i64 s] 3)).alloc (.cells #[.int .i64 0, .int .i64 0] 43)
  have hbR := Bk.new ((w.alloc (.cells #[.int .i64 b, .slice A n c] 24)).alloc (.cells #[.int .i64 s] 3)) 43 #[.int .i64 0, .int .i64 0]
  have hb0 : Below w.heap.size w (((w.alloc (.cells #[.int .i64 b, .slice A n c] 24)).alloc (.cells #[.int .i64 s] 3)).alloc (.cells #[.int .i64 0, .int .i64 0] 43)) := (((Below.refl _ w).alloc (Nat.le_refl _) _).alloc (by simp) _).alloc (by simp; omega) _
  simp only [World.size_alloc] at hbR
  have hc0 := hbk0.cell 0
  have hc1 := hbk0.cell 1
  have hx0 := hx.next hb0 (Nat.le_refl _) hb0.size
  go_enter Try.func31, Try.ntmps31
  go_wp2_with fail
  refine (fOpen_err b A n c ps _ hx0 hn q HP hq).mono ?_
  rintro e w1 ⟨rfl, hb⟩
  have hbR1 := hbR.below hb (by simp)
  have hb1 : Below w.heap.size w w1 := hb0.trans (hb.mono (by simp; omega))
  have hbRa := hbR1.alloc (.cells #[.pointer none] 79)
  have r0 : (w1.alloc (.cells #[.pointer none] 79)).cell? ⟨w.heap.size + 1 + 1, 0, none⟩ = some (.int .i64 0) := hbRa.cell 0
  have r1 : (w1.alloc (.cells #[.pointer none] 79)).cell? ⟨w.heap.size + 1 + 1, 1, none⟩ = some (.int .i64 0) := hbRa.cell 1
  have f0 := hbRa.frozen 0
  have f1 := hbRa.frozen 1
  clear hc0 hc1 hx0 hbk0 hb0 hb
  have hbR2 := hbRa.set_ 0 (.int .i64 0)
  have hbR3 := hbR2.set_ 1 (.int .i64 0)
  go_wp2
  refine bodyPost_ret (results_range rfl _ rfl hbR3) rfl ⟨rfl, ?_⟩
  exact ((hb1.alloc hb1.size _).setCell (p := ⟨w.heap.size + 1 + 1, 0, none⟩) (by simp; omega) _).setCell (p := ⟨w.heap.size + 1 + 1, 1, none⟩) (by simp; omega) _

/-- 'Within', up to the loop: the pier is valid; is the stop one of its stops? -/
theorem within_pre (b : Int) (A : Option Addr) (n c : Nat) (_ps : List (Int × Int)) (s : Int) (w w1 : World) (_g : Nat)
    (hb : Below (w.heap.size + 3) (((w.alloc (.cells #[.int .i64 b, .slice A n c] 24)).alloc (.cells #[.int .i64 s] 3)).alloc (.cells #[.int .i64 0, .int .i64 0] 43)) w1) :
    Bk w1 w.heap.size 24 #[.int .i64 b, .slice A n c] ∧ Bk w1 (w.heap.size + 1) 3 #[.int .i64 s] ∧ Bk w1 (w.heap.size + 1 + 1) 43 #[.int .i64 0, .int .i64 0] ∧ Below w.heap.size w w1 ∧ w.heap.size + 3 ≤ w1.heap.size := by
  have h0 := ((Bk.new w 24 #[.int .i64 b, .slice A n c]).alloc (.cells #[.int .i64 s] 3)).alloc (.cells #[.int .i64 0, .int .i64 0] 43)
  have h1 := (Bk.new (w.alloc (.cells #[.int .i64 b, .slice A n c] 24)) 3 #[.int .i64 s]).alloc (.cells #[.int .i64 0, .int .i64 0] 43)
  have h2 := Bk.new ((w.alloc (.cells #[.int .i64 b, .slice A n c] 24)).alloc (.cells #[.int .i64 s] 3)) 43 #[.int .i64 0, .int .i64 0]
  have hb0 : Below w.heap.size w (((w.alloc (.cells #[.int .i64 b, .slice A n c] 24)).alloc (.cells #[.int .i64 s] 3)).alloc (.cells #[.int .i64 0, .int .i64 0] 43)) := (((Below.refl _ w).alloc (Nat.le_refl _) _).alloc (by simp) _).alloc (by simp; omega) _
  simp only [World.size_alloc] at h1 h2
  have hs := hb.size
  simp at hs
  exact ⟨h0.below hb (by omega), h1.below hb (by omega), h2.below hb (by omega), hb0.trans (hb.mono (by omega)), by omega⟩

set_option maxRecDepth 100000 in
set_option maxHeartbeats 2000000 in
theorem fWithin_err (b : Int) (A : Option Addr) (n c : Nat) (ps : List (Int × Int)) (s : Int) (w : World) (hx : Rp w w.heap.size A n ps) (hn : n ≤ 1048576) (hc : n ≤ c) (HP : Hid (Pier b ps)) (HS : Hid (s < 0 ∨ (n : Int) ≤ s)) :
    Calls Try.prog 31 #[.agg #[.int .i64 b, .slice A n c], .int .i64 s] w (RetRE w 0 0 2) := by
  have HCP : Hid (checkPier b ps = 0) := Lib.hid (checkPier_ok.2 HP.out)
  have hbk0 := ((Bk.new w 24 #[.int .i64 b, .slice A n c]).alloc (.cells #[.int .i64 s] 3)).alloc (.cells #[.int .i64 0, .int .i64 0] 43)
  have hb0 : Below w.heap.size w (((w.alloc (.cells #[.int .i64 b, .slice A n c] 24)).alloc (.cells #[.int .i64 s] 3)).alloc (.cells #[.int .i64 0, .int .i64 0] 43)) := (((Below.refl _ w).alloc (Nat.le_refl _) _).alloc (by simp) _).alloc (by simp; omega) _
  have hc0 := hbk0.cell 0
  have hc1 := hbk0.cell 1
  have hx0 := hx.next hb0 (Nat.le_refl _) hb0.size
  go_enter Try.func31, Try.ntmps31
  go_wp2_with fail
  refine (fOpen_ok b A n c ps _ hx0 hn hc HCP).mono ?_
  rintro e w1 ⟨g, rfl, hw, hg, hb⟩
  obtain ⟨p0, p1, p2, hb1, hs1⟩ := within_pre b A n c ps s w w1 g (hb.mono (by simp))
  clear hc0 hc1 hx0 hbk0 hb0 hb
  have q0 := p0.alloc (.cells #[.pointer (some ⟨g, 0, none⟩)] 79)
  have q1 := p1.alloc (.cells #[.pointer (some ⟨g, 0, none⟩)] 79)
  have q2 := p2.alloc (.cells #[.pointer (some ⟨g, 0, none⟩)] 79)
  have hb2 := hb1.alloc hb1.size (.cells #[.pointer (some ⟨g, 0, none⟩)] 79)
  have c0 : (w1.alloc (.cells #[.pointer (some ⟨g, 0, none⟩)] 79)).cell? ⟨w.heap.size, 1, none⟩ = some (.slice A n c) := q0.cell 1
  have c1 : (w1.alloc (.cells #[.pointer (some ⟨g, 0, none⟩)] 79)).cell? ⟨w.heap.size + 1, 0, none⟩ = some (.int .i64 s) := q1.cell 0
  have hlit := (Oi.lit1 (w1.alloc (.cells #[.pointer (some ⟨g, 0, none⟩)] 79)) s).ri
  rw [World.size_alloc w1] at hlit
  have HR : Hid ([s].any (outB 0 ((n : Int) - 1)) = true) := Lib.hid (by
    have := HS.out
    simp [outB]
    omega)
  go_wp2_with fail
  refine (fWithin _ _ _ _ _ _ _ hlit (by omega) _ HR).mono ?_
  rintro e w2 ⟨rfl, hb3, hse⟩
  clear hse
  have r2 := (q2.alloc (.cells #[.int .i64 s] 2)).below hb3 (by simp; omega)
  have hb4 : Below w.heap.size w w2 := (hb2.alloc hb2.size _).trans (hb3.mono (by have := hb2.size; simp at this ⊢; omega))
  have k0 : w2.cell? ⟨w.heap.size + 1 + 1, 0, none⟩ = some (.int .i64 0) := r2.cell 0
  have k1 : w2.cell? ⟨w.heap.size + 1 + 1, 1, none⟩ = some (.int .i64 0) := r2.cell 1
  have f0 := r2.frozen 0
  have f1 := r2.frozen 1
  have r3 := (r2.set_ 0 (.int .i64 0)).set_ 1 (.int .i64 0)
  clear hlit q0 q1 q2 c0 c1 hb3
  go_wp2
  refine bodyPost_ret (results_range rfl _ rfl r3) rfl ⟨rfl, ?_⟩
  exact (hb4.setCell (p := ⟨w.heap.size + 1 + 1, 0, none⟩) (by simp; omega) _).setCell (p := ⟨w.heap.size + 1 + 1, 1, none⟩) (by simp; omega) _

/-- The steps of a stop in those of some rounds that are in time. -/
def atLs (b : Int) (ps : List (Int × Int)) (s : Nat) (Ls : List (List Nat)) : List Int := (Ls.filter fun l => decide (lateL ps (stepsL b ps l) ≤ 0)).map fun l => nth (stepsL b ps l) s
theorem atLs_snoc (b : Int) (ps : List (Int × Int)) (s : Nat) (Ls : List (List Nat)) (l : List Nat) : atLs b ps s (Ls ++ [l]) = atLs b ps s Ls ++ if lateL ps (stepsL b ps l) ≤ 0 then [nth (stepsL b ps l) s] else [] := by
  unfold atLs
  rw [List.filter_append, List.map_append]
  congr 1
  by_cases h : lateL ps (stepsL b ps l) ≤ 0
  · simp [h]
  · simp [h]
theorem atLs_len (b : Int) (ps : List (Int × Int)) (s : Nat) (Ls : List (List Nat)) : (atLs b ps s Ls).length ≤ Ls.length := by
  unfold atLs
  rw [List.length_map]
  exact List.length_filter_le _ _
theorem atLs_all {b : Int} {ps : List (Int × Int)} (hp : Pier b ps) (s : Nat) : atLs b ps s (allR b ps) = stepsAt b ps s := by
  unfold atLs stepsAt goodR
  congr 1
  refine List.filter_congr fun l hl => ?_
  unfold inTimeB
  rw [decide_eq_true (full_steps hp hl), Bool.true_and]

set_option maxRecDepth 100000 in
set_option maxHeartbeats 4000000 in
theorem fWithin_ok (b : Int) (A : Option Addr) (n c : Nat) (ps : List (Int × Int)) (s : Nat) (w : World) (hx : Rp w w.heap.size A n ps) (hn : n ≤ 1048576) (hc : n ≤ c) (HP : Hid (Pier b ps)) (hsn : s < n) (v : Int × Int × Int)
    (HV : Hid ((if goodR b ps = [] then (0, 0, 12) else (minOf (stepsAt b ps s), maxOf (stepsAt b ps s), 0)) = v)) :
    Calls Try.prog 31 #[.agg #[.int .i64 b, .slice A n c], .int .i64 (s : Int)] w (RetRE w v.1 v.2.1 v.2.2) := by
  have HCP : Hid (checkPier b ps = 0) := Lib.hid (checkPier_ok.2 HP.out)
  have HLN := Lib.hid hx.len
  have hn10 : n ≤ 10 := by have := HP.out.hi; have := HLN.out; omega
  have hbk0 := ((Bk.new w 24 #[.int .i64 b, .slice A n c]).alloc (.cells #[.int .i64 (s : Int)] 3)).alloc (.cells #[.int .i64 0, .int .i64 0] 43)
  have hb0 : Below w.heap.size w (((w.alloc (.cells #[.int .i64 b, .slice A n c] 24)).alloc (.cells #[.int .i64 (s : Int)] 3)).alloc (.cells #[.int .i64 0, .int .i64 0] 43)) := (((Below.refl _ w).alloc (Nat.le_refl _) _).alloc (by simp) _).alloc (by simp; omega) _
  have hc0 := hbk0.cell 0
  have hc1 := hbk0.cell 1
  have hx0 := hx.next hb0 (Nat.le_refl _) hb0.size
  have hmf : ∀ (fn : Fn) (first cap : Array Value) (w : World), (Instr.makeFunc fn first cap).run Try.prog w = .ok (.func fn first cap) w := fun _ _ _ _ => rfl
  have hmix : Try.prog.follows .mixedOrders = true := by kernel_rfl
  refine (callsIn_wide (n := 5)).1 ?_
  refine callsIn_of_wp_marks Try.func31 rfl trivial ?_ rfl
  simp only [Try.ntmps31, List.size_toArray, List.length_cons, List.length_nil, Nat.reduceAdd, Nat.reduceSub, Array.replicate_succ, Array.replicate_zero, List.push_toArray, List.append_toArray, List.nil_append, List.cons_append]
  refine wpIn_wide.2 ?_
  go_wp2_with fail
  refine (fOpen_ok b A n c ps _ hx0 hn hc HCP).mono ?_
  rintro e w1 ⟨g, rfl, hw, hg, hb⟩
  obtain ⟨p0, p1, p2, hb1, hs1⟩ := within_pre b A n c ps s w w1 g (hb.mono (by simp))
  clear hc0 hc1 hx0 hbk0 hb0 hb
  have q0 := p0.alloc (.cells #[.pointer (some ⟨g, 0, none⟩)] 79)
  have q1 := p1.alloc (.cells #[.pointer (some ⟨g, 0, none⟩)] 79)
  have q2 := p2.alloc (.cells #[.pointer (some ⟨g, 0, none⟩)] 79)
  have q3 := Bk.new w1 79 #[.pointer (some ⟨g, 0, none⟩)]
  have hb2 := (Below.refl _ w1).alloc (Nat.le_refl _) (.cells #[.pointer (some ⟨g, 0, none⟩)] 79)
  have c0 : (w1.alloc (.cells #[.pointer (some ⟨g, 0, none⟩)] 79)).cell? ⟨w.heap.size, 1, none⟩ = some (.slice A n c) := q0.cell 1
  have c1 : (w1.alloc (.cells #[.pointer (some ⟨g, 0, none⟩)] 79)).cell? ⟨w.heap.size + 1, 0, none⟩ = some (.int .i64 (s : Int)) := q1.cell 0
  have hlit := (Oi.lit1 (w1.alloc (.cells #[.pointer (some ⟨g, 0, none⟩)] 79)) (s : Int)).ri
  rw [World.size_alloc w1] at hlit
  have HR : Hid ([(s : Int)].any (outB 0 ((n : Int) - 1)) = false) := Lib.hid (by
    simp [outB]
    omega)
  go_wp2_with fail
  refine (fWithin _ _ _ _ _ _ _ hlit (by omega) _ HR).mono ?_
  rintro e w2 ⟨rfl, hb3, hse⟩
  clear hse
  have hs2 : w1.heap.size + 2 ≤ w2.heap.size := by have := hb3.size; simp at this; omega
  have r1 := (q1.alloc (.cells #[.int .i64 (s : Int)] 2)).below hb3 (by simp; omega)
  have r2 := (q2.alloc (.cells #[.int .i64 (s : Int)] 2)).below hb3 (by simp; omega)
  have r3 := (q3.alloc (.cells #[.int .i64 (s : Int)] 2)).below hb3 (by simp; omega)
  have hb4 : Below w1.heap.size w1 w2 := (hb2.alloc (by simp) _).trans (hb3.mono (by simp; omega))
  have k3 : w2.cell? ⟨w1.heap.size, 0, none⟩ = some (.pointer (some ⟨g, 0, none⟩)) := r3.cell 0
  have k3' : (w2.alloc (.cells #[.slice none 0 0] 28)).cell? ⟨w1.heap.size, 0, none⟩ = some (.pointer (some ⟨g, 0, none⟩)) := (r3.alloc _).cell 0
  clear hlit q0 q1 q2 q3 c0 c1 hb3 p0 p1 p2 hb2
  go_wp2_with fail
  refine (dRounds _ ⟨_, rfl⟩ _).mono ?_
  rintro e w' ⟨rfl, rfl⟩
  have e1 := (r1.alloc (.cells #[.slice none 0 0] 28)).alloc (.cells #[.pointer (some ⟨g, 0, none⟩)] 79)
  have e2 := (r2.alloc (.cells #[.slice none 0 0] 28)).alloc (.cells #[.pointer (some ⟨g, 0, none⟩)] 79)
  have e3 := (r3.alloc (.cells #[.slice none 0 0] 28)).alloc (.cells #[.pointer (some ⟨g, 0, none⟩)] 79)
  have e4 := (Bk.new w2 28 #[.slice none 0 0]).alloc (.cells #[.pointer (some ⟨g, 0, none⟩)] 79)
  have e5 := Bk.new (w2.alloc (.cells #[.slice none 0 0] 28)) 79 #[.pointer (some ⟨g, 0, none⟩)]
  have hbW : Below w1.heap.size w1 ((w2.alloc (.cells #[.slice none 0 0] 28)).alloc (.cells #[.pointer (some ⟨g, 0, none⟩)] 79)) := (hb4.alloc (by omega) _).alloc (by simp; omega) _
  simp only [World.size_alloc] at e5 ⊢
  obtain ⟨W0, hW0⟩ : ∃ W0, ((w2.alloc (.cells #[.slice none 0 0] 28)).alloc (.cells #[.pointer (some ⟨g, 0, none⟩)] 79)) = W0 := ⟨_, rfl⟩
  have hs0 : w2.heap.size + 2 = W0.heap.size := by rw [← hW0]; simp
  rw [hW0] at e1 e2 e3 e4 e5 hbW ⊢
  clear hW0 k3 k3' r1 r2 r3
  have HS0 := Lib.hid hs0
  clear hs0
  go_wp2_with fail
  refine rounds_range (w2.heap.size + 1) g n c w1.heap.size A b ps rfl HP e5 (hw.below hbW) (by have := HS0.out; omega)
    (fun pre W => (Bk W (w.heap.size + 1) 3 #[.int .i64 (s : Int)] ∧ Bk W (w.heap.size + 1 + 1) 43 #[.int .i64 0, .int .i64 0] ∧ Bk W w1.heap.size 79 #[.pointer (some ⟨g, 0, none⟩)]) ∧ OutP W0.heap.size w2.heap.size (atLs b ps s (pre.map El.l)) W ∧ Below w1.heap.size w1 W ∧ W0.heap.size ≤ W.heap.size)
    (fun _ _ _ => False) ?hI ?hIx ⟨⟨e1, e2, e3⟩, ⟨none, 0, e4, Oi.nil_ _ _⟩, hbW, Nat.le_refl _⟩ ?a1 ?hassign ?hbody ?hdone ?hstop
  case hI => exact fun s' A' C row hs hg' hr => ⟨⟨Bk.from_ (β := Unit) _ _ _ _ () A' C row hs.1.1 hg' hr, Bk.from_ (β := Unit) _ _ _ _ () A' C row hs.1.2.1 hg' hr, Bk.from_ (β := Unit) _ _ _ _ () A' C row hs.1.2.2 hg' hr⟩, outP_from _ _ _ (fun pre : List El => atLs b ps s (pre.map El.l)) s' A' C row hs.2.1 hg' hr, below_from (β := Unit) (by have := HS0.out; omega) (Nat.le_refl _) () A' C row hs.2.2.1 hg' hr, Nat.le_trans hs.2.2.2 hg'.size⟩
  case hIx => exact fun _ _ _ _ _ h _ _ => h
  case hassign =>
    intro l x W K hK
    gi_wp2
    exact hK
  case hbody =>
    rintro l pre ⟨xa, xc, xl⟩ W ⟨⟨h0, h00, h1⟩, ⟨D, dc, h2, h4⟩, h3, hsW⟩ ⟨ho, hxL⟩ hpre
    dsimp only at ho hxL ⊢
    have c1 : W.cell? ⟨w1.heap.size, 0, none⟩ = some (.pointer (some ⟨g, 0, none⟩)) := h1.cell 0
    have hxm := allR_iff.1 hxL
    have hwW := (hw.below h3).more h3.size
    have hlen : xl.length ≤ 10 := by have := HP.out.hi; omega
    have HALL : Hid (∀ i ∈ xl, i < n) := Lib.hid (by rw [← HLN.out]; exact hxm.2.2)
    have HSB := Lib.hid (stepsL_bd HP.out (l := xl) hxm.2.2 hlen)
    obtain ⟨L, HLS⟩ : ∃ L, Hid (stepsL b ps xl = L) := ⟨_, Lib.hid rfl⟩
    have HSN : Hid (atLs b ps s ((pre ++ [(⟨xa, xc, xl⟩ : El)]).map El.l) = atLs b ps s (pre.map El.l) ++ if lateL ps L ≤ 0 then [nth L s] else []) := Lib.hid (by rw [← HLS.out, List.map_append]; exact atLs_snoc _ _ _ _ _)
    have hgN := atLs_len b ps s (pre.map El.l)
    rw [List.length_map] at hgN
    have hm252 := allR_many HP.out
    obtain ⟨M, HM⟩ : ∃ M, Hid (atLs b ps s (pre.map El.l) = M) := ⟨_, Lib.hid rfl⟩
    obtain ⟨k, HK⟩ : ∃ k, Hid (xl.length = k) := ⟨_, Lib.hid rfl⟩
    obtain ⟨m, HML⟩ : ∃ m, Hid (M.length = m) := ⟨_, Lib.hid rfl⟩
    obtain ⟨z, HZ⟩ : ∃ z, Hid (lateL ps L = z) := ⟨_, Lib.hid rfl⟩
    rw [HM.out] at h2 h4 hgN HSN
    rw [HML.out] at h2 h4 hgN
    rw [HZ.out] at HSN
    have hm : m ≤ 252 := by omega
    rw [HK.out] at ho hlen ⊢
    rw [HLS.out] at HSB
    have hr := ho.ri
    clear hgN hpre hm252 hxm ho hxL
    gi_wp2_with fail
    refine ⟨trivial, ?_⟩
    refine (CallsIn.inRound l (callsIn_wide.2 (dSteps g n c A b ps _ hwW HP xa k xc xl hr (by omega) HALL))).mono ?_
    rintro e w3 ⟨rfl, hb2⟩
    rw [HLS.out]
    have hbO := Bk.new w3 85 (arr10 zeros)
    have c1a := h1.below hb2 h1.lt
    gi_wp2_with (first | (refine store_steps_in rfl (.tmp 10) (.tmp 39) rfl w3.heap.size L zeros rfl rfl hbO ?_; intro w4 hk4 hb4 hs4; have c1b : w4.cell? ⟨w1.heap.size, 0, none⟩ = some (.pointer (some ⟨g, 0, none⟩)) := ((c1a.alloc _).below hb4 c1a.lt).cell 0) | (refine load_steps_in (by kernel_rfl) (.tmp 10) rfl w3.heap.size rfl hk4 ?_))
    refine ⟨trivial, ?_⟩
    have hch4 : Chg (fun _ => False) W w4 := (((Chg.refl _ W).below hb2 (Nat.le_refl _)).alloc _).below hb4 hb2.size
    have hb14 := h3.trans (hch4.toBelow (fun _ h => h.elim) h3.size)
    refine (CallsIn.inRound l (callsIn_wide.2 (dLate g n c A b ps _ ((hw.below hb14).more hb14.size) HP L (Lib.hid HSB.out.1) (Lib.hid HSB.out.2)))).mono ?_
    rintro e w5 ⟨rfl, hb5⟩
    rw [HZ.out]
    have hch5 : Chg (fun _ => False) W w5 := hch4.below hb5 hch4.size
    by_cases hz : z ≤ 0
    · have HSN2 : Hid (atLs b ps s ((pre ++ [(⟨xa, xc, xl⟩ : El)]).map El.l) = M ++ [nth L s]) := Lib.hid (by rw [HSN.out, if_pos hz])
      have hcap := h4.cap
      have y2 := hch5.bk h2 (fun h => h)
      have y1 := hch5.bk h0 (fun h => h)
      have yk := hk4.below hb5 hk4.lt
      have y4 := (hch5.oi h4 (fun _ _ h => h)).drew
      have x2 : w5.cell? ⟨w2.heap.size, 0, none⟩ = some (.slice D m dc) := y2.cell 0
      have x1 : w5.cell? ⟨w.heap.size + 1, 0, none⟩ = some (.int .i64 (s : Int)) := y1.cell 0
      have xk : w5.cell? ⟨w3.heap.size, s, none⟩ = some (.int .i64 (nth L s)) := (yk.cell s).trans (arr10_at L (by omega))
      have hs10 : s < 10 := by omega
      have hs10i : (s : Int) < 10 := by omega
      obtain ⟨zz, HZZ⟩ : ∃ zz, Hid (nth L s = zz) := ⟨_, Lib.hid rfl⟩
      rw [HZZ.out] at xk HSN2
      gi_wp2
      refine round_lastL (fun V => V.cell? ⟨w2.heap.size, 0, none⟩ = some (.slice D m dc) ∧ V.cell? ⟨w.heap.size + 1, 0, none⟩ = some (.int .i64 (s : Int)) ∧ V.cell? ⟨w3.heap.size, s, none⟩ = some (.int .i64 zz)) hmix rfl (by kernel_rfl) (by kernel_rfl) (fun _ _ h => h) ⟨x2, x1, xk⟩ (fun hS => ?_)
      simp only [List.dropLast_cons_cons, List.dropLast_singleton, List.length_cons, List.length_nil, Nat.reduceAdd]
      refine wpAnyH_take (i := 0) (v := ?_) rfl (by kernel_rfl) (by kernel_rfl) (by kernel_rfl) (fun _ _ _ h => h) (Or.inl ⟨by rfl, ?_⟩) hS ?_
      rotate_left
      · intro w hSw
        (try dsimp only at hSw)
        go_simp
        (try with_reducible rfl)
      try simp (maxSteps := 10000000) only [Act.put, List.setIfInBounds_toArray, List.set_cons_zero, List.set_cons_succ, List.getElem_toArray, List.getElem_cons_zero]
      refine wpAnyH_take (i := 1) (v := ?_) rfl (by kernel_rfl) (by kernel_rfl) (by kernel_rfl) (fun _ _ _ h => h) (Or.inl ⟨by rfl, ?_⟩) hS ?_
      rotate_left
      · intro w hSw
        (try dsimp only at hSw)
        go_simp
        (try with_reducible rfl)
      try simp (maxSteps := 10000000) only [Act.put, List.setIfInBounds_toArray, List.set_cons_zero, List.set_cons_succ, List.getElem_toArray, List.getElem_cons_zero, List.getElem_cons_succ]
      refine wpAnyH_take (i := 2) (v := ?_) rfl (by kernel_rfl) (by kernel_rfl) (by kernel_rfl) (fun _ _ _ h => h) (Or.inl ⟨by rfl, ?_⟩) hS ?_
      rotate_left
      · intro w hSw
        (try dsimp only at hSw)
        go_simp
        (try with_reducible rfl)
      try simp (maxSteps := 10000000) only [Act.put, List.setIfInBounds_toArray, List.set_cons_zero, List.set_cons_succ, List.getElem_toArray, List.getElem_cons_zero, List.getElem_cons_succ]
      refine wpAnyH_take (i := 3) (v := ?_) rfl (by kernel_rfl) (by kernel_rfl) (by kernel_rfl) (fun _ _ _ h => h) (Or.inl ⟨by rfl, ?_⟩) hS ?_
      rotate_left
      · intro w hSw
        (try dsimp only at hSw)
        go_simp
        (try with_reducible rfl)
      try simp (maxSteps := 10000000) only [Act.put, List.setIfInBounds_toArray, List.set_cons_zero, List.set_cons_succ, List.getElem_toArray, List.getElem_cons_zero, List.getElem_cons_succ]
      refine wpAnyH_take (i := 4) (v := ?_) rfl (by kernel_rfl) (by kernel_rfl) (by kernel_rfl) (fun _ _ _ h => h) (Or.inl ⟨by rfl, ?_⟩) hS ?_
      rotate_left
      · intro w hSw
        (try dsimp only at hSw)
        go_simp
        (try with_reducible rfl)
      try simp (maxSteps := 10000000) only [Act.put, List.setIfInBounds_toArray, List.set_cons_zero, List.set_cons_succ, List.getElem_toArray, List.getElem_cons_zero, List.getElem_cons_succ]
      refine wpAnyH_take (i := 5) (v := ?_) rfl (by kernel_rfl) (by kernel_rfl) (by kernel_rfl) (fun _ _ _ h => h) (Or.inl ⟨by rfl, ?_⟩) hS ?_
      rotate_left
      · intro w hSw
        (try dsimp only at hSw)
        go_simp
        (try with_reducible rfl)
      try simp (maxSteps := 10000000) only [Act.put, List.setIfInBounds_toArray, List.set_cons_zero, List.set_cons_succ, List.getElem_toArray, List.getElem_cons_zero, List.getElem_cons_succ]
      refine wpAnyH_take (i := 6) (v := ?_) rfl (by kernel_rfl) (by kernel_rfl) (by kernel_rfl) (fun _ _ _ h => h) (Or.inl ⟨by rfl, ?_⟩) hS ?_
      rotate_left
      · intro w hSw
        (try dsimp only at hSw)
        go_simp
        (try with_reducible rfl)
      try simp (maxSteps := 10000000) only [Act.put, List.setIfInBounds_toArray, List.set_cons_zero, List.set_cons_succ, List.getElem_toArray, List.getElem_cons_zero, List.getElem_cons_succ]
      refine wpAnyH_take (i := 7) (v := ?_) rfl (by kernel_rfl) (by kernel_rfl) (by kernel_rfl) (fun _ _ _ h => h) (Or.inl ⟨by rfl, ?_⟩) hS ?_
      rotate_left
      · intro w hSw
        (try dsimp only at hSw)
        go_simp
        (try with_reducible rfl)
      try simp (maxSteps := 10000000) only [Act.put, List.setIfInBounds_toArray, List.set_cons_zero, List.set_cons_succ, List.getElem_toArray, List.getElem_cons_zero, List.getElem_cons_succ]
      refine wpAnyH_take (i := 8) (v := ?_) rfl (by kernel_rfl) (by kernel_rfl) (by kernel_rfl) (fun _ _ _ h => h) (Or.inl ⟨by rfl, ?_⟩) hS ?_
      rotate_left
      · intro w hSw
        (try dsimp only at hSw)
        go_simp
        (try with_reducible rfl)
      try simp (maxSteps := 10000000) only [Act.put, List.setIfInBounds_toArray, List.set_cons_zero, List.set_cons_succ, List.getElem_toArray, List.getElem_cons_zero, List.getElem_cons_succ]
      refine wpAnyH_ready (rs := [9]) (by kernel_rfl) (by simp) ?_
      refine AllReadyH.cons rfl (fun K hK => ?_) AllReadyH.nil
      go_simp
      refine hK.out _ _ ⟨cell_old _ x2, cell_old _ x1, cell_old _ xk⟩ (fun hS => ?_)
      clear hK K
      try simp (maxSteps := 10000000) only [Act.put, List.setIfInBounds_toArray, List.set_cons_zero, List.set_cons_succ, List.getElem_toArray, List.getElem_cons_zero, List.getElem_cons_succ]
      refine wpAnyH_ready (rs := [10]) (by kernel_rfl) (by simp) ?_
      refine AllReadyH.cons rfl (fun K hK => ?_) AllReadyH.nil
      refine step_push_full (by kernel_rfl) (.tmp 50) (.tmp 54) rfl W0.heap.size D m dc M rfl (y4.alloc _) ⟨w5.heap.size, 0, none⟩ 1 zz rfl (cell_new1 w5 _ _) (by omega) ?_
      intro g5 cap5 w6 ho5 hg5
      have v2 := (y2.drew.alloc (.cells #[.int .i64 zz] 2)).grown hg5 (by simp)
      have v1 := (y1.drew.alloc (.cells #[.int .i64 zz] 2)).grown hg5 (by simp)
      have vk := (yk.drew.alloc (.cells #[.int .i64 zz] 2)).grown hg5 (by simp)
      have vk2 : w6.cell? ⟨w3.heap.size, s, none⟩ = some (.int .i64 zz) := by rw [vk.cell s, arr10_at L hs10, HZZ.out]
      have vf := v2.frozen 0
      have v2c : w6.cell? ⟨w2.heap.size, 0, none⟩ = some (.slice D m dc) := v2.cell 0
      refine hK.out _ _ ⟨v2c, v1.cell 0, vk2⟩ (fun hS => ?_)
      clear hK K
      try simp (maxSteps := 10000000) only [Act.put, List.setIfInBounds_toArray, List.set_cons_zero, List.set_cons_succ, List.getElem_toArray, List.getElem_cons_zero, List.getElem_cons_succ]
      refine wpAnyH_done (by kernel_rfl) ?_ _
      unfold lastQ
      go_simp
      have hch : Chg (fun k => k = w2.heap.size) W (w6.setCell ⟨w2.heap.size, 0, none⟩ (.slice (some ⟨g5, 0, none⟩) (m + 1) cap5)) :=
        Chg.setCell (X := fun k => k = w2.heap.size) (p := ⟨w2.heap.size, 0, none⟩) ((((hch5.mono (fun _ _ h => h.elim)).alloc _).drew).grown hg5 (fun r e => by cases e)) (.inl rfl) _
      have hne5 : some w2.heap.size ≠ (some ⟨g5, 0, none⟩ : Option Addr).map Addr.block := ho5.bk_ne v2 (by decide)
      have HML2 : Hid ((M ++ [zz]).length = m + 1) := Lib.hid (by rw [List.length_append, HML.out]; rfl)
      refine ⟨hch.keeps _ (fun k e => by subst e; exact h2.cells), hch.kr (fun k e => by omega) h3.size (fun k cs e hB => by have := HS0.out; omega), ⟨hch.bk h0 (by omega), hch.bk h00 (by omega), hch.bk h1 (by omega)⟩, ?_, h3.trans (hch.toBelow (fun k e => by omega) h3.size), Nat.le_trans hsW hch.size⟩
      rw [HSN2.out]
      exact ⟨some ⟨g5, 0, none⟩, cap5, by rw [HML2.out]; exact v2.set_ 0 _, by rw [HML2.out]; exact (ho5.setOther (p := ⟨w2.heap.size, 0, none⟩) hne5 _).base (by have := hch5.size; simp; omega)⟩
    · have HSN2 : Hid (atLs b ps s ((pre ++ [(⟨xa, xc, xl⟩ : El)]).map El.l) = M) := Lib.hid (by rw [HSN.out, if_neg hz, List.append_nil])
      gi_wp2
      refine ⟨hch5.keeps _ (fun _ h => h.elim), hch5.kr (fun _ h => h.elim) h3.size (fun _ _ h => h.elim), ⟨hch5.bk h0 (fun h => h), hch5.bk h00 (fun h => h), hch5.bk h1 (fun h => h)⟩, ?_, h3.trans (hch5.toBelow (fun _ h => h.elim) h3.size), Nat.le_trans hsW hch5.size⟩
      rw [HSN2.out]
      exact ⟨D, dc, by rw [HML.out]; exact hch5.bk h2 (fun h => h), by rw [HML.out]; exact hch5.oi h4 (fun _ _ h => h)⟩
  case hdone =>
    rintro Dd xs W hD hxs ⟨⟨_, h00, _⟩, ⟨D, dc, h2, h4⟩, h3, _⟩ hDW
    have HXS : Hid (atLs b ps s (xs.map El.l) = stepsAt b ps s) := Lib.hid (by rw [hxs, atLs_all HP.out])
    have hl252 : (stepsAt b ps s).length ≤ 252 := by
      rw [← atLs_all HP.out]
      exact Nat.le_trans (atLs_len b ps s _) (allR_many HP.out)
    have hem : goodR b ps = [] ↔ (stepsAt b ps s).length = 0 := by
      unfold stepsAt
      rw [List.length_map]
      exact List.length_eq_zero_iff.symm
    rw [HXS.out] at h2 h4
    have hV := HV.out
    obtain ⟨M, HM⟩ : ∃ M, Hid (stepsAt b ps s = M) := ⟨_, Lib.hid rfl⟩
    rw [HM.out] at h2 h4 hl252 hem hV
    obtain ⟨m, HML⟩ : ∃ m, Hid (M.length = m) := ⟨_, Lib.hid rfl⟩
    rw [HML.out] at h2 h4 hl252 hem
    have HV2 := Lib.hid hV
    have HEM := Lib.hid hem
    clear hV hem
    have c8 : W.cell? ⟨w2.heap.size, 0, none⟩ = some (.slice D m dc) := h2.cell 0
    have k0 : W.cell? ⟨w.heap.size + 1 + 1, 0, none⟩ = some (.int .i64 0) := h00.cell 0
    have k1 : W.cell? ⟨w.heap.size + 1 + 1, 1, none⟩ = some (.int .i64 0) := h00.cell 1
    have f0 := h00.frozen 0
    have f1 := h00.frozen 1
    have hbel : Below w.heap.size w W := hb1.trans (h3.mono hb1.size)
    have hDb : w.heap.size ≤ Dd := by have := HS0.out; omega
    have hDn : Dd ≠ w.heap.size + 1 + 1 := by have := HS0.out; omega
    have HD := Lib.hid hDW
    clear hDW hxs
    by_cases hm0 : m = 0
    · subst hm0
      have HE : Hid (v = (0, 0, 12)) := Lib.hid (by rw [← HV2.out, if_pos (HEM.out.2 rfl)])
      have r3 := (h00.set_ 0 (.int .i64 0)).set_ 1 (.int .i64 0)
      go_wp2
      have hD3 : ((W.setCell ⟨w.heap.size + 1 + 1, 0, none⟩ (.int .i64 0)).setCell ⟨w.heap.size + 1 + 1, 1, none⟩ (.int .i64 0)).heap[Dd]? = some (.deferred (some [])) := by
        rw [Below.heap_setCell _ _ _ _ hDn, Below.heap_setCell _ _ _ _ hDn]
        exact HD.out
      refine ⟨by simp, .inl ⟨_, _, rfl, run_takeDeferred hD3, ?_⟩⟩
      refine ⟨_, results_range rfl _ rfl (Bk.grown r3 (grownBy_putObj' _ Dd (.deferred none)) (fun e => hDn (Option.some.inj e).symm)), by rw [HE.out]; rfl, ?_⟩
      exact ((hbel.setCell (p := ⟨w.heap.size + 1 + 1, 0, none⟩) (by simp; omega) _).setCell (p := ⟨w.heap.size + 1 + 1, 1, none⟩) (by simp; omega) _).grown (grownBy_putObj' _ Dd (.deferred none)) (by have := hbel.size; simp; omega) (fun k e => by cases e; exact hDb)
    · have HE : Hid (v = (minOf M, maxOf M, 0)) := Lib.hid (by rw [← HV2.out, if_neg (fun e => hm0 (HEM.out.1 e))])
      obtain ⟨lo, HLO⟩ : ∃ lo, Hid (minOf M = lo) := ⟨_, Lib.hid rfl⟩
      obtain ⟨hi, HHI⟩ : ∃ hi, Hid (maxOf M = hi) := ⟨_, Lib.hid rfl⟩
      have hm1 : 0 < m := by omega
      go_wp2
      refine wp_region_still_tail 5 (by kernel_rfl) (by kernel_rfl) ?_
      simp only [List.take_succ_cons, List.take_zero, List.drop_succ_cons, List.drop_zero]
      change wpStill _ _ W.drew _ _ _
      have d8 : W.drew.cell? ⟨w2.heap.size, 0, none⟩ = some (.slice D m dc) := c8
      have d0 : W.drew.cell? ⟨w.heap.size + 1 + 1, 0, none⟩ = some (.int .i64 0) := k0
      have d1 : W.drew.cell? ⟨w.heap.size + 1 + 1, 1, none⟩ = some (.int .i64 0) := k1
      have g0 : W.drew.frozen? ⟨w.heap.size + 1 + 1, 0, none⟩ = false := f0
      have g1 : W.drew.frozen? ⟨w.heap.size + 1 + 1, 1, none⟩ = false := f1
      still_step
      still_call (flip_same (lMin D m dc _ M W.drew h4.drew.ri (by omega) hm1))
      still_step
      still_call (flip_same (lMax D m dc _ M W.drew h4.drew.ri (by omega) hm1))
      still_step
      refine wpStill_nil ?_
      rw [HLO.out, HHI.out]
      change wpList _ _ _ _ _ W.drew
      have r3 := ((h00.set_ 0 (.int .i64 lo)).set_ 1 (.int .i64 hi)).drew
      go_wp2
      have hD3 : ((W.setCell ⟨w.heap.size + 1 + 1, 0, none⟩ (.int .i64 lo)).setCell ⟨w.heap.size + 1 + 1, 1, none⟩ (.int .i64 hi)).drew.heap[Dd]? = some (.deferred (some [])) := by
        show ((W.setCell ⟨w.heap.size + 1 + 1, 0, none⟩ (.int .i64 lo)).setCell ⟨w.heap.size + 1 + 1, 1, none⟩ (.int .i64 hi)).heap[Dd]? = _
        rw [Below.heap_setCell _ _ _ _ hDn, Below.heap_setCell _ _ _ _ hDn]
        exact HD.out
      refine ⟨by simp, .inl ⟨_, _, rfl, run_takeDeferred hD3, ?_⟩⟩
      refine ⟨_, results_range rfl _ rfl (Bk.grown r3 (grownBy_putObj' _ Dd (.deferred none)) (fun e => hDn (Option.some.inj e).symm)), by rw [HE.out, HLO.out, HHI.out]; rfl, ?_⟩
      exact ((hbel.setCell (p := ⟨w.heap.size + 1 + 1, 0, none⟩) (by simp; omega) _).setCell (p := ⟨w.heap.size + 1 + 1, 1, none⟩) (by simp; omega) _).drew.grown (grownBy_putObj' _ Dd (.deferred none)) (by have := hbel.size; simp; omega) (fun k e => by cases e; exact hDb)
  case hstop => exact fun _ _ _ _ _ _ h _ => h.elim
end Go.Proofs.Ytaekjnjignlmoaa
