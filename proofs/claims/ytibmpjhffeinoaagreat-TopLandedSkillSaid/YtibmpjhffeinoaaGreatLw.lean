/-
  wheel: 'reached'.
-/
import Derived.Test.YtibmpjhffeinoaaGreatLd
import Derived.Test.YtibmpjhffeinoaaGreatLv
import Derived.Deep.DeepCutAuto
import Derived.Deep.RegionHeld3
import Derived.BigRegion
namespace Go.Proofs.YtibmpjhffeinoaaGreat
open Go.RowKit Go.Shelf Go.Maps

/-- The cells of a bench. -/
def bnCells (S : Int) (AN AP AQ : Option Addr) (n cN np cP mb nq cq : Nat) : Array Value := #[.int .i64 S, .slice AN n cN, .slice AP np cP, .map (some mb), .slice AQ nq cq]
/-- A bench in memory: its table of turns. -/
structure Ben (w : World) (g mb cnt : Nat) (D : DataW Unit) (N : Nat → Nat → Int) (S : Int) (AN AP AQ : Option Addr) (n cN np cP nq cq : Nat) : Prop where
  bk : Bk w g 105 (bnCells S AN AP AQ n cN np cP mb nq cq)
  mp : w.ownsMap Tryz.prog 218 (plainElem (H := Unit) Tryz.prog 2) mb cnt D
  tu : Tu n N D
theorem below_grown {w w' : World} (h : Below w.heap.size w w') : w.grownBy w' none := ⟨h.os, h.tape, h.output, h.size, fun k hk _ => h.block k hk⟩
section
variable {w w' : World} {g mb cnt : Nat} {D : DataW Unit} {N : Nat → Nat → Int} {S : Int} {AN AP AQ : Option Addr} {n cN np cP nq cq : Nat}
theorem Ben.below (h : Ben w g mb cnt D N S AN AP AQ n cN np cP nq cq) (hb : Below w.heap.size w w') : Ben w' g mb cnt D N S AN AP AQ n cN np cP nq cq := ⟨h.bk.below hb h.bk.lt, h.mp.kept (below_grown hb) (by simp), h.tu⟩
theorem Ben.c0 (h : Ben w g mb cnt D N S AN AP AQ n cN np cP nq cq) : w.cell? ⟨g, 0, none⟩ = some (.int .i64 S) := h.bk.cell 0
theorem Ben.c1 (h : Ben w g mb cnt D N S AN AP AQ n cN np cP nq cq) : w.cell? ⟨g, 1, none⟩ = some (.slice AN n cN) := h.bk.cell 1
theorem Ben.c2 (h : Ben w g mb cnt D N S AN AP AQ n cN np cP nq cq) : w.cell? ⟨g, 2, none⟩ = some (.slice AP np cP) := h.bk.cell 2
theorem Ben.c3 (h : Ben w g mb cnt D N S AN AP AQ n cN np cP nq cq) : w.cell? ⟨g, 3, none⟩ = some (.map (some mb)) := h.bk.cell 3
theorem Ben.c4 (h : Ben w g mb cnt D N S AN AP AQ n cN np cP nq cq) : w.cell? ⟨g, 4, none⟩ = some (.slice AQ nq cq) := h.bk.cell 4
end
/-- How long a slice is. -/
def lenV (v : Value) : Nat := match v with
  | .slice _ n _ => n
  | _ => 0
theorem srt_len : ∀ xs ∈ Kx.perms, (Kx.srt xs).length = xs.length := by decide +kernel
theorem Oj.cells_ {w : World} {base g n c : Nat} {xs : List Int} (h : Oj w base (some ⟨g, 0, none⟩) n c xs) : ∃ cs : Array Value, w.heap[g]? = some (.cells cs 3 (0, 0)) ∧ (∀ (j : Nat) (x : Int), xs[j]? = some x → cs[j]? = some (.int .i64 x)) ∧ n ≤ c ∧ c ≤ cs.size := by
  rcases h.2 with ⟨e, _⟩ | ⟨g', cap, cur, e, _, h2, h3, _, h4, h5⟩
  · cases e
  · cases e
    refine ⟨cur, h2, fun j y hj => ?_, h3, by omega⟩
    rw [Nat.mul_one] at h5
    have hj2 : (ints xs)[j]? = some (.int .i64 y) := by unfold ints; rw [List.getElem?_map, hj]; rfl
    rw [← h5, List.getElem?_take] at hj2
    split at hj2
    · rw [← Array.getElem?_toList]
      exact hj2
    · cases hj2
set_option maxRecDepth 100000 in
set_option maxHeartbeats 3200000 in
theorem fReached (g mb cnt : Nat) (D : DataW Unit) (N : Nat → Nat → Int) (S : Int) (AN AP AQ : Option Addr) (n cN np cP nq cq i : Nat) (w : World) (hb : Ben w g mb cnt D N S AN AP AQ n cN np cP nq cq) (hn : n ≤ 4) (hi : i < n) :
    Calls Tryz.prog 274 #[.pointer (some ⟨g, 0, none⟩), .int .i64 (i : Int)] w fun e w' => ∃ gx m c, e = .returned (.slice (some ⟨gx, 0, none⟩) m c) ∧ w.heap.size ≤ gx ∧ m ≤ c ∧ Ri w' w'.heap.size (some ⟨gx, 0, none⟩) m (rchL N n i) ∧ Below w.heap.size w w' := by
  have hbA := ((Below.refl w.heap.size w).alloc (Nat.le_refl _) (.cells #[] 3)).alloc (by simp) (.cells #[.int .i64 (i : Int)] 3)
  have hout : Oj ((w.alloc (.cells #[] 3)).alloc (.cells #[.int .i64 (i : Int)] 3)) w.heap.size (some ⟨w.heap.size, 0, none⟩) 0 0 [] := (Oj.lit0 w).alloc _
  have hwin : Win ((w.alloc (.cells #[] 3)).alloc (.cells #[.int .i64 (i : Int)] 3)) w.heap.size w.heap.size (some ⟨w.heap.size + 1, 0, none⟩) 1 1 [(i : Int)] := ⟨rfl, Nat.le_refl _, fun e => (by cases e), fun _ => ⟨w.heap.size + 1, 0, #[.int .i64 (i : Int)], rfl, by omega, by omega, (by
      have := Bk.new (w.alloc (.cells #[] 3)) 3 #[.int .i64 (i : Int)]
      rw [World.size_alloc] at this
      exact this), rfl, fun j x hj => by
    match j, hj with
    | 0, hj => simp at hj; subst hj; rfl
    | j + 1, hj => simp at hj⟩⟩
  generalize hW : (w.alloc (.cells #[] 3)).alloc (.cells #[.int .i64 (i : Int)] 3) = W at *
  have hs : W.heap.size = w.heap.size + 2 := by rw [← hW]; simp
  have HB0 := Lib.hid (Bfs.start N n i)
  have HBN := Lib.hid hb
  clear hb
  go_enter Tryz.func274, Tryz.ntmps274
  go_wp2
  go_loopw [5, 6, 7, 8, 26] (fun t5 t6 _ _ _ wr => ∃ (gx no co nw cw : Nat) (A : Option Addr) (out wait : List Int), t5 = .slice (some ⟨gx, 0, none⟩) no co ∧ t6 = .slice A nw cw ∧ Oj wr w.heap.size (some ⟨gx, 0, none⟩) no co out ∧ Win wr w.heap.size gx A nw cw wait ∧ Hid (Bfs N n i out wait) ∧ 2 * (4 - no) + nw ≤ 9 ∧ Below w.heap.size w wr) (fun t5 t6 _ _ _ _ => 2 * (4 - lenV t5) + lenV t6)
  case atStart => exact ⟨_, _, _, _, _, _, _, _, rfl, rfl, hout, hwin, HB0, by omega, hbA⟩
  case round =>
    clear hout hwin HB0 hbA
    obtain ⟨gx, no, co, nw, cw, A, out, wait, rfl, rfl, hout, hwin, HB, h9, hbw⟩ := hrel
    have hwl := hwin.len
    have hol := hout.len
    by_cases hnw : 0 < nw
    · obtain ⟨x, wt, rfl⟩ : ∃ x wt, wait = x :: wt := by
        cases wait with
        | nil => simp at hwl; omega
        | cons x wt => exact ⟨x, wt, rfl⟩
      obtain ⟨m, rfl⟩ : ∃ m, nw = m + 1 := ⟨nw - 1, by omega⟩
      have hle := hwin.le
      obtain ⟨d, rfl⟩ : ∃ d, cw = d + 1 := ⟨cw - 1, by omega⟩
      obtain ⟨a, rfl, hca⟩ := hwin.head
      obtain ⟨at_, hx, hat⟩ : ∃ at_ : Nat, x = at_ ∧ at_ < n := by
        rcases HB.out.wt x (by simp) with e | e
        · exact ⟨i, e, hi⟩
        · obtain ⟨k, e1, e2⟩ := HB.out.sound x e
          exact ⟨k, e1, e2.lt⟩
      have HI := Lib.hid (HB.out.pop hx)
      subst hx
      have hm14 := HB.out.len hn
      rw [hol] at hm14
      clear HB hnw
      go_upto_region 5 with fail
      go_cut [6] (fun s6 wx => wx = wr ∧ ∃ A2, s6 = .slice A2 m d ∧ Win wr w.heap.size gx A2 m d wt)
      case first =>
        by_cases hd : d = 0
        · subst hd
          have hm0 : m = 0 := by omega
          subst hm0
          have hwt : wt = [] := List.eq_nil_of_length_eq_zero (by simpa using hwl)
          subst hwt
          go_wp2
          go_meet
          exact ⟨rfl, some a, rfl, Win.empty a⟩
        · go_wp2
          go_meet
          exact ⟨rfl, some (a.add 1), rfl, hwin.tail (by omega)⟩
      case rest =>
        obtain ⟨rfl, A2, rfl, hw2⟩ := hcut
        obtain ⟨M, hM⟩ : ∃ M, Hid (2 * (4 - no) + m = M) := ⟨_, Lib.hid rfl⟩
        have hM2 : 2 * (4 - no) + m ≤ M := by rw [hM.out]; exact Nat.le_refl _
        have hM9 : M ≤ 9 := by rw [← hM.out]; omega
        have c1 := (HBN.out.below hbw).c1
        clear h9
        clear hwin hca hwl hle
        go_wp2
        go_loopw [5, 6, 8, 26] (fun t5 t6 _ t26 wr => ∃ (gx no co nw cw q : Nat) (A : Option Addr) (out wait : List Int), q ≤ n ∧ t26 = .int .i64 (q : Int) ∧ t5 = .slice (some ⟨gx, 0, none⟩) no co ∧ t6 = .slice A nw cw ∧ Oj wr w.heap.size (some ⟨gx, 0, none⟩) no co out ∧ Win wr w.heap.size gx A nw cw wait ∧ Hid (BfsI N n i out wait at_ q) ∧ 2 * (4 - no) + nw ≤ M ∧ Below w.heap.size w wr) (fun _ _ _ t26 _ => n - (intOf t26).toNat)
        case atStart => exact ⟨gx, no, co, m, d, 0, A2, out, wt, Nat.zero_le _, rfl, rfl, rfl, hout, hw2, HI, hM2, hbw⟩
        case round =>
          clear hout hw2 HI hM2 c1 hm14 hol hbw
          obtain ⟨gx, no, co, nw, cw, q, A, out, wait, hq, rfl, rfl, rfl, hout, hwin, HI, hM2, hbw⟩ := hrel
          have hol := hout.len
          have hwl := hwin.len
          have hout4 := HI.out.len hn
          rw [hol] at hout4
          have hben := HBN.out.below hbw
          have c3 := hben.c3
          have hmp := hben.mp
          have HT := Lib.hid hben.tu
          clear hben
          by_cases hqn : q < n
          · obtain ⟨kl, hkl⟩ := tk_ex (i := (at_ : Int)) (k := (q : Int)) (by omega) (by omega)
            have HKL := Lib.hid hkl
            unfold tv at hkl
            obtain ⟨nn, HN⟩ : ∃ nn, Hid (N at_ q = nn) := ⟨_, Lib.hid rfl⟩
            have hlook : ∀ cc : Int, D.atKey kl (.lit (.int .i64 0)) = .lit (.int .i64 cc) → nn = cc := fun cc hat' => by
              rw [← HN.out]
              exact (HT.out.look hat hqn HKL.out hat').symm
            have HLK := Lib.hid hlook
            clear hlook
            by_cases hp : 0 < nn
            · by_cases hmem : (q : Int) ∈ out
              · have HD : Hid (decide ((q : Int) ∈ out) = true) := Lib.hid (decide_eq_true hmem)
                have HI2 := Lib.hid (HI.out.old hmem)
                have hri := hout.ri
                clear HI hmem
                go_wp2_with (first | (at_lookup; refine wpList_lookup_own_int _ rfl _ _ 103 rfl 218 2 .i64 lawT under_turns under_i64 (zero_i64 _) mb cnt D rfl hmp _ kl rfl hkl ?_; intro cc hat' _; obtain rfl := HLK.out cc hat') | (go_at_call 67; refine (fContains _ _ _ _ _ _ _ hri (by omega)).mono ?_; rintro e w5 ⟨rfl, rfl⟩; rw [HD.out]))
                exact ⟨⟨gx, no, co, nw, cw, q + 1, A, out, wait, by omega, by go_num, rfl, rfl, hout, hwin, HI2, hM2, hbw⟩, by simp [intOf]; omega⟩
              · have HD : Hid (decide ((q : Int) ∈ out) = false) := Lib.hid (decide_eq_false hmem)
                have HI2 := Lib.hid (HI.out.new hqn (by rw [HN.out]; exact hp) hmem)
                have hl5 := HI2.out.len hn
                rw [List.length_append, hol] at hl5
                simp only [List.length_cons, List.length_nil] at hl5
                have hri := hout.ri
                have hbs := hbw.size
                have hnw : nw < 1099511627776 := by omega
                clear HI hmem
                go_wp2_with (first | (at_lookup; refine wpList_lookup_own_int _ rfl _ _ 103 rfl 218 2 .i64 lawT under_turns under_i64 (zero_i64 _) mb cnt D rfl hmp _ kl rfl hkl ?_; intro cc hat' _; obtain rfl := HLK.out cc hat') | (go_at_call 67; refine (fContains _ _ _ _ _ _ _ hri (by omega)).mono ?_; rintro e w5 ⟨rfl, rfl⟩; rw [HD.out]) | (at_builtin; refine push_at rfl (.tmp 44) (.tmp 46) rfl w.heap.size gx no co out rfl (hout.alloc _) ⟨wr.heap.size, 0, none⟩ 1 _ rfl (cell_new1 _ _ _) (by omega) (by simp only [World.size_alloc]; omega) ?_; intro g1 cap1 v1 ho1 hg1 hloc; have hb1 := Oj.pushed hout hbw hbs (Nat.le_refl _) hg1; have hbs1 := hb1.size; have hw1 := (hwin.alloc (.cells #[.int .i64 (q : Int)] 3)).kept2 hg1 hloc) | (at_builtin; refine push_win rfl (.tmp 48) (.tmp 50) rfl w.heap.size g1 A nw cw wait rfl (hw1.alloc _) ⟨v1.heap.size, 0, none⟩ 1 _ rfl (cell_new1 _ _ _) (by omega) (by simp only [World.size_alloc]; omega) (by have := (ho1.lt g1 rfl).2; simp only [World.size_alloc]; omega) ?_; intro A2 cw2 v2 row hw2 hg2 hrow; have ho2 := (ho1.alloc (.cells #[.int .i64 (q : Int)] 3)).kept hg2 (by cases row with | none => exact .inr (by simp) | some g => exact .inr (by have := (hrow g rfl).2; simpa using fun e => this e.symm)); have hb2 := (hb1.alloc hbs1 (.cells #[.int .i64 (q : Int)] 3)).grown hg2 (by simp; omega) fun k hk => (hrow k hk).1))
                exact ⟨⟨g1, no + 1, cap1, nw + 1, cw2, q + 1, A2, _, _, by omega, by go_num, rfl, rfl, ho2, hw2, HI2, by omega, hb2⟩, by simp [intOf]; omega⟩
            · have HI2 := Lib.hid (HI.out.skip (by rw [HN.out]; exact hp))
              clear HI
              go_wp2_with (at_lookup; refine wpList_lookup_own_int _ rfl _ _ 103 rfl 218 2 .i64 lawT under_turns under_i64 (zero_i64 _) mb cnt D rfl hmp _ kl rfl hkl ?_; intro cc hat' _; obtain rfl := HLK.out cc hat')
              exact ⟨⟨gx, no, co, nw, cw, q + 1, A, out, wait, by omega, by go_num, rfl, rfl, hout, hwin, HI2, hM2, hbw⟩, by simp [intOf]; omega⟩
          · obtain rfl : n = q := by omega
            have HB2 := Lib.hid HI.out.done
            go_wp2
            exact ⟨⟨gx, no, co, nw, cw, A, out, wait, rfl, rfl, hout, hwin, HB2, by omega, hbw⟩, by have := hM.out; simp [lenV]; omega⟩
    · have hnw0 : nw = 0 := by omega
      subst hnw0
      have hw0 : wait = [] := List.eq_nil_of_length_eq_zero hwl
      subst hw0
      obtain ⟨cs, hcs, hcv, hle1, hle2⟩ := hout.cells_
      have hgx := (hout.lt gx rfl).1
      have HP := Lib.hid (HB.out.perm hn)
      have HS := Lib.hid HB.out.srt
      have hsort := Kx.sort_call HP.out hcs hcv hol hle1 hle2
      have HC := Lib.hid hcv
      clear HB hcv
      go_wp2_with (go_at_call 338; refine (hsort).mono ?_; rintro e w2 ⟨rfl, cs2, t2, hc2, hv2, hb2⟩; have HV2 := Lib.hid hv2; clear hv2)
      go_ret
      have hb3 := hbw.trans (hb2.mono hgx)
      refine ⟨_, _, _, rfl, hgx, hle1, ⟨?_, fun h0 => ⟨⟨gx, 0, none⟩, rfl, (Array.getElem?_eq_some_iff.1 hc2).1, fun j hj => ?_⟩⟩, hb3⟩
      · rw [ints_length, ← HS.out, srt_len _ HP.out, hol, Nat.mul_one]
      · rw [add_lit0, cell_of_row w2 gx j cs2 t2 (0, 0) hc2]
        have hj2 : j < (rchL N n i).length := by simpa [ints] using hj
        have := HV2.out j (rchL N n i)[j] (by rw [HS.out]; exact List.getElem?_eq_getElem hj2)
        rw [this]
        simp [ints]
end Go.Proofs.YtibmpjhffeinoaaGreat
