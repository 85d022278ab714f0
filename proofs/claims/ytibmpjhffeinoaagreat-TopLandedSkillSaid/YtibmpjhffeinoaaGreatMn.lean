/-
  wheel: 'lands'.
-/
import Derived.Test.YtibmpjhffeinoaaGreatNe
import Derived.Test.YtibmpjhffeinoaaGreatLy
namespace Go.Proofs.YtibmpjhffeinoaaGreat
open Go.RowKit Go.Shelf Go.Maps

theorem Pts.mv {w : World} {g nq cq : Nat} {AQ : Option Addr} {Ls : List (List Int)} (h : Pts w g AQ nq cq Ls) : Mv w w.heap.size AQ nq Ls := ⟨h.len, fun i L hi => by
  obtain ⟨ad, A, c', e, _, h2, h3, h4, h5, _⟩ := h.at_ i L hi
  exact ⟨ad, A, c', e, h2, h3, h4, h5⟩⟩
/-- By how many places a state leads to a part. -/
def colv (N : Nat → Nat → Int) (part : List Int) (x : Int) : Int := (part.map fun j => N x.toNat j.toNat).sum
/-- As many as the first ones lead to. -/
def psum (N : Nat → Nat → Int) (part : List Int) (x : Int) (r : Nat) : Int := colv N (part.take r) x
theorem psum_zero (N : Nat → Nat → Int) (part : List Int) (x : Int) : psum N part x 0 = 0 := rfl
theorem psum_succ {N : Nat → Nat → Int} {part : List Int} {x y : Int} {r : Nat} (h : part[r]? = some y) : psum N part x r + N x.toNat y.toNat = psum N part x (r + 1) := by
  unfold psum colv
  rw [List.take_add_one, h]
  simp
theorem psum_all (N : Nat → Nat → Int) (part : List Int) (x : Int) : psum N part x part.length = colv N part x := by
  unfold psum
  rw [List.take_length]
theorem psum_b {N : Nat → Nat → Int} {part : List Int} {x : Int} (h : ∀ y ∈ part, 0 ≤ N x.toNat y.toNat ∧ N x.toNat y.toNat ≤ 20) : ∀ r : Nat, 0 ≤ psum N part x r ∧ psum N part x r ≤ 20 * r
  | 0 => by rw [psum_zero]; omega
  | r + 1 => by
    have h1 := psum_b h r
    cases hy : part[r]? with
    | none =>
      have : psum N part x (r + 1) = psum N part x r := by
        unfold psum
        rw [List.take_add_one, hy]
        simp
      rw [this]
      omega
    | some y =>
      rw [← psum_succ hy]
      have := h y (List.mem_of_getElem? hy)
      omega
theorem prow_zset (f : Int → Int) (st : List Int) (j : Nat) (hj : j < st.length) : (prow f st j).set j 0 = prow f st j := by
  refine List.ext_getElem? fun i => ?_
  rw [List.getElem?_set]
  split
  · rename_i e
    subst e
    have h1 := prow_len f st j (by omega)
    rw [if_pos (by omega)]
    have h2 := prow_nth f st j hj
    unfold nth at h2
    rw [List.getElem?_eq_getElem (by omega)] at h2 ⊢
    simp only [Option.getD_some] at h2
    rw [h2]
  · rfl
/-- The states that are in no part. -/
def opL (Ls : List (List Int)) (n : Nat) : List Int := woL Ls.flatten n
/-- What 'solve' is asked. -/
def csL (N : Nat → Nat → Int) (Ls : List (List Int)) (n p : Nat) : List Int := (opL Ls n).map (colv N (Ls[p]?.getD []))
def numL (S : Int) (N : Nat → Nat → Int) (Ls : List (List Int)) (n i p : Nat) : Int := nth (solL (tabL S N (opL Ls n)) (opL Ls n).length (csL N Ls n p)) (idx (opL Ls n) i).toNat
def denL (S : Int) (N : Nat → Nat → Int) (Ls : List (List Int)) (n : Nat) : Int := det (opL Ls n).length (tabL S N (opL Ls n))
/-- What 'lands' answers. -/
def landR (S : Int) (N : Nat → Nat → Int) (Ls : List (List Int)) (n i p : Nat) : Int × Int :=
  if (i : Int) ∈ opL Ls n then (((numL S N Ls n i p).toNat / Nat.gcd (numL S N Ls n i p).toNat (denL S N Ls n).toNat : Nat), ((denL S N Ls n).toNat / Nat.gcd (numL S N Ls n i p).toNat (denL S N Ls n).toNat : Nat))
  else if (i : Int) ∈ Ls[p]?.getD [] then (1, 1) else (0, 1)
set_option maxRecDepth 100000 in
set_option maxHeartbeats 3200000 in
theorem fLandsB (g mb cnt : Nat) (D : DataW Unit) (N : Nat → Nat → Int) (S : Int) (AN AP AQ : Option Addr) (n cN np cP nq cq i p : Nat) (Ls : List (List Int)) (w : World) (hb : Ben w g mb cnt D N S AN AP AQ n cN np cP nq cq) (hP : Pts w g AQ nq cq Ls) (hn : n ≤ 4) (hq : nq ≤ 4) (_hi : i < n) (hp : p < nq) (h0 : 0 < Ls.flatten.length) (hl : ∀ L ∈ Ls, L.length ≤ 4) (hlt : ∀ L ∈ Ls, ∀ x ∈ L, ∃ k : Nat, x = k ∧ k < n) (hm : (opL Ls n).length ≤ 3) (hS : 0 ≤ S ∧ S ≤ 20) (hN : ∀ i k, i < n → k < n → 0 ≤ N i k ∧ N i k ≤ 20) (hnum : (i : Int) ∈ opL Ls n → 0 ≤ numL S N Ls n i p ∧ numL S N Ls n i p ≤ 100000000) (hden : 0 < denL S N Ls n ∧ denL S N Ls n ≤ 100000000) :
    Calls Tryz.prog 60 #[.pointer (some ⟨g, 0, none⟩), .int .i64 (i : Int), .int .i64 (p : Int)] w fun e w' => e = .returned (.agg #[.int .i64 (landR S N Ls n i p).1, .int .i64 (landR S N Ls n i p).2]) ∧ Below w.heap.size w w' := by
  have hP0 : Ls[p]? = some (Ls[p]'(by rw [hP.len]; exact hp)) := List.getElem?_eq_getElem (by rw [hP.len]; exact hp)
  generalize Ls[p]'(by rw [hP.len]; exact hp) = part at *
  have HPart := Lib.hid hP0
  have hpl := hl part (List.mem_of_getElem? hP0)
  have HPL := Lib.hid (hlt part (List.mem_of_getElem? hP0))
  have HN := Lib.hid hN
  have HF0 := Lib.hid h0
  have HLen := Lib.hid hl
  have HLT := Lib.hid hlt
  have HM := Lib.hid hm
  have HNum := Lib.hid hnum
  have HDen := Lib.hid hden
  have hbA := (Below.refl w.heap.size w).alloc (Nat.le_refl _) (.cells #[.int .i64 0, .int .i64 0] 39)
  have hR0 := Bk.new w 39 #[.int .i64 0, .int .i64 0]
  have hB1 := hb.below hbA
  have hP1 := hP.below hbA
  have hsA : (w.alloc (.cells #[.int .i64 0, .int .i64 0] 39)).heap.size = w.heap.size + 1 := by simp
  generalize hW : w.alloc (.cells #[.int .i64 0, .int .i64 0] 39) = W at *
  have c4 := hB1.c4
  have hsz : w.heap.size < W.heap.size := by omega
  have HB := Lib.hid hB1
  have HP := Lib.hid hP1
  clear hP0 hN h0 hl hlt hm hnum hden hb hP hsA hB1 hP1
  obtain ⟨res, HRes⟩ : ∃ res, Hid (landR S N Ls n i p = res) := ⟨_, Lib.hid rfl⟩
  rw [HRes.out]
  have hcon := Lib.hid (fConcat AQ nq cq Ls W HP.out.mv hq HLen.out HF0.out)
  have hfl := flat_len_le (Ls := Ls) (b := 4) HLen.out
  rw [HP.out.len] at hfl
  go_enter Tryz.func60, Tryz.ntmps60
  go_wp2_with fail
  refine hcon.out.mono ?_
  rintro e w1 ⟨A1, m1, c1, rfl, hO1, hb1⟩
  have hm1 := hO1.len
  have hs1 := hb1.size
  have hB1 := HB.out.below hb1
  have hwo := Lib.hid (fWithout g AN A1 n cN m1 c1 Ls.flatten w1 hB1.bk.lt hB1.c1 hn hO1.ri (by omega))
  clear hB1 hcon hfl hm1 hO1
  go_wp2_with fail
  refine hwo.out.mono ?_
  rintro e w2 ⟨A2, m, c2, rfl, hO2, hmn, hb2⟩
  have hO : Oj w2 W.heap.size A2 m c2 (opL Ls n) := hO2.base hs1
  have hbW : Below W.heap.size W w2 := hb1.trans (hb2.mono hs1)
  have hml := hO.len
  have hm3 : m ≤ 3 := by rw [← hml]; exact HM.out
  have HML := Lib.hid hml
  clear hO2 hb1 hb2 hs1 hwo hml c4
  obtain ⟨op, HOP⟩ : ∃ op, Hid (opL Ls n = op) := ⟨_, Lib.hid rfl⟩
  rw [HOP.out] at hO HML
  have hix := Lib.hid (fIndex A2 m c2 w2.heap.size op (i : Int) w2 hO.ri (by omega))
  have hbA2 := hbA.trans (hbW.mono (Nat.le_of_lt hsz))
  have hw2 : w.heap.size < w2.heap.size := Nat.lt_of_lt_of_le hsz hbW.size
  have hB2 := HB.out.below hbW
  have hP2 := HP.out.below hbW
  have hR2 : Bk w2 w.heap.size 39 #[.int .i64 0, .int .i64 0] := hR0.below (hbW) hsz
  have c4 := hB2.c4
  by_cases hio : (i : Int) ∈ op
  · obtain ⟨a, ha⟩ : ∃ a : Nat, idx op (i : Int) = a := ⟨(idx op (i : Int)).toNat, by have := idx_mem.2 hio; omega⟩
    have HRN : Hid ((i : Int) ∈ opL Ls n) := Lib.hid (by rw [HOP.out]; exact hio)
    have hm0 : 0 < m := by
      rw [← HML.out]
      exact List.length_pos_of_mem hio
    rw [ha] at hix
    have HA := Lib.hid ha
    have ham : a < m := by
      have h1 : a < op.length := by
        have := ha
        unfold idx at this
        split at this
        · rename_i k hk
          have hk2 := (List.findIdx?_eq_some_iff_getElem.1 hk).1
          omega
        · omega
      rw [HML.out] at h1
      exact h1
    have hpl4 : part.length ≤ 4 := hpl
    have hop : Hid (∀ x ∈ op, ∃ k : Nat, x = k ∧ k < n) := Lib.hid fun x hx => by
      rw [← HOP.out] at hx
      exact (woL_mem.1 hx).1
    have hws := hbA2.size
    clear ha hio
    obtain ⟨F, HF⟩ : ∃ F, Hid (F = colv N part) := ⟨_, Lib.hid rfl⟩
    obtain ⟨gc, HG⟩ : ∃ gc, Hid (w2.heap.size = gc) := ⟨_, Lib.hid rfl⟩
    obtain ⟨adO, hA2, hadO⟩ : ∃ adO : Addr, A2 = some adO ∧ adO.block < w2.heap.size := by
      obtain ⟨ad, e, hb, _⟩ := hO.ri.2 hm0
      exact ⟨ad, e, hb⟩
    subst hA2
    have HOr := Lib.hid hO.ri
    obtain ⟨ad, AP1, cp1, hAQ, hadg, hadl, hcp, hcpl, hrp, _⟩ := hP2.at_ p part HPart.out
    subst hAQ
    have HRP := Lib.hid hrp
    have HCP := Lib.hid hcp
    clear hrp hcp
    have HBN := Lib.hid hB2
    have HR2 := Lib.hid hR2
    have h0m : ¬ (a : Int) < 0 := by omega
    clear hO hP2 hB2 hR2
    go_wp2_with first | (go_at_call 151; refine (hix.out).mono ?_; rintro e w5 ⟨rfl, rfl⟩) | (at_make; refine make_ints rfl (.tmp 40) (.tmp 40) rfl m (m : Int) rfl rfl rfl (by omega) ?_; intro w3 ho3 hb3)
    rw [HG.out] at ho3 hb3 hws hadO ⊢
    have hO3 : Oi w3 gc (some ⟨gc, 0, none⟩) m m (prow F op 0) := by rw [prow_zero, HML.out]; exact ho3
    clear ho3 c4
    go_loopw [10, 11, 13, 44, 57] (fun _ _ _ t44 _ wr => ∃ q : Nat, q ≤ m ∧ t44 = .int .i64 (q : Int) ∧ Oi wr gc (some ⟨gc, 0, none⟩) m m (prow F op q) ∧ Below gc w2 wr) (fun _ _ _ t44 _ _ => m - (intOf t44).toNat)
    case atStart => exact ⟨0, Nat.zero_le _, rfl, hO3, hb3⟩
    case round =>
      clear hO3 hb3 w3
      obtain ⟨q, hq, rfl, hO, hb⟩ := hrel
      have hb' : Below w2.heap.size w2 wr := by rw [HG.out]; exact hb
      have hOr := HOr.out.below hb'
      have c4 := (HBN.out.below hb').c4
      by_cases hqm : q < m
      · obtain ⟨ado, x, hado, _, hcx, HX, _⟩ := hOr.at_ hqm
        cases hado
        obtain ⟨xk, rfl, hxk⟩ := hop.out x (List.mem_of_getElem? HX.out)
        have hcp : wr.cell? (ad.add p) = some (.slice AP1 part.length cp1) := (hb'.cell (by rw [addr_block]; exact hadl)).trans HCP.out
        have hzs : Hid ((prow F op q).set q (psum N part (xk : Int) 0) = prow F op q) := Lib.hid (by rw [psum_zero]; exact prow_zset _ _ _ (by rw [HML.out]; exact hqm))
        have hO0 : Oi wr gc (some ⟨gc, 0, none⟩) m m ((prow F op q).set q (psum N part (xk : Int) 0)) := by rw [hzs.out]; exact hO
        have HAll : Hid ((prow F op q).set q (psum N part (xk : Int) part.length) = prow F op (q + 1)) := Lib.hid (by rw [psum_all, ← prow_set HX.out, HF.out])
        clear hzs hO
        obtain ⟨pn, hpn⟩ : ∃ pn, Hid (part.length = pn) := ⟨_, Lib.hid rfl⟩
        rw [hpn.out] at hcp HAll hpl4
        go_wp2
        go_loopw [13, 57] (fun _ t57 wr => ∃ r : Nat, r ≤ pn ∧ t57 = .int .i64 (r : Int) ∧ Oi wr gc (some ⟨gc, 0, none⟩) m m ((prow F op q).set q (psum N part (xk : Int) r)) ∧ Below gc w2 wr) (fun _ t57 _ => pn - (intOf t57).toNat)
        case atStart => exact ⟨0, Nat.zero_le _, rfl, hO0, hb⟩
        case round =>
          clear hO0 hb hb' hOr c4 hcx hcp
          obtain ⟨r, hr, rfl, hO, hb⟩ := hrel
          have hb' : Below w2.heap.size w2 wr := by rw [HG.out]; exact hb
          by_cases hrn : r < pn
          · have hben := HBN.out.below hb'
            have c3 := hben.c3
            have hmp := hben.mp
            have HT := Lib.hid hben.tu
            have hrp := HRP.out.below hb'
            rw [hpn.out] at hrp
            obtain ⟨ady, y, rfl, _, hcy, HY, _⟩ := hrp.at_ hrn
            obtain ⟨yk, rfl, hyk⟩ := HPL.out y (List.mem_of_getElem? HY.out)
            obtain ⟨kl, hkl⟩ := tk_ex (i := (xk : Int)) (k := (yk : Int)) (by omega) (by omega)
            obtain ⟨nv, hrun, hat, _⟩ := (World.ownsMap.drew hmp).lookup_int lawT under_turns under_i64 (zero_i64 _) hkl
            have HNV : Hid (nv = N xk yk) := Lib.hid (HT.out.look hxk hyk hkl hat)
            have hnv : 0 ≤ nv ∧ nv ≤ 20 := by rw [HNV.out]; exact HN.out xk yk hxk hyk
            have hps := psum_b (N := N) (part := part) (x := (xk : Int)) (fun y hy => by
              obtain ⟨k, rfl, hk⟩ := HPL.out y hy
              exact HN.out xk k hxk hk) r
            have HPS : Hid (psum N part (xk : Int) r + nv = psum N part (xk : Int) (r + 1)) := Lib.hid (by rw [HNV.out]; exact psum_succ HY.out)
            clear hat hkl hben hrp
            unfold tv at hrun
            have hcell := hO.cell hqm
            have hlo := hO.len
            rw [nth_set (by rw [List.length_set] at hlo; omega), if_pos rfl] at hcell
            have hfr := hO.frozen q
            have c3d : wr.drew.cell? ⟨g, 3, none⟩ = some (.map (some mb)) := c3
            have hcd : wr.drew.cell? ⟨gc, q, none⟩ = some (.int .i64 (psum N part (xk : Int) r)) := hcell
            have hO3 := (hO.put_ q (psum N part (xk : Int) r + nv)).drew
            have hb3 : Below gc w2 (wr.setCell ⟨gc, q, none⟩ (.int .i64 (psum N part (xk : Int) r + nv))).drew := below_drewN (hb.setCell (p := ⟨gc, q, none⟩) (Nat.le_refl _) (.int .i64 (psum N part (xk : Int) r + nv))) 1
            rw [List.set_set] at hO3
            obtain ⟨z1, hz1⟩ : ∃ z1, Hid (psum N part (xk : Int) (r + 1) = z1) := ⟨_, Lib.hid rfl⟩
            have hrb : (r : Int) ≤ 4 := by omega
            generalize psum N part (xk : Int) r = z at *
            clear hlo
            go_wp2
            refine wp_region_still_tail 13 (by kernel_rfl) (by kernel_rfl) ?_
            simp only [List.take_succ_cons, List.take_zero, List.drop_succ_cons, List.drop_zero]
            change wpStill _ _ wr.drew _ _ _
            iterate 13 still_step
            refine wpStill_nil ?_
            go_wp2
            exact ⟨⟨r + 1, by omega, by go_num, by rw [← HPS.out]; exact hO3, hb3⟩, by simp [intOf]; omega⟩
          · obtain rfl : pn = r := by omega
            rw [HAll.out] at hO
            go_wp2
            exact ⟨⟨q + 1, by omega, by go_num, hO, hb⟩, by simp [intOf]; omega⟩
      · obtain rfl : m = q := by omega
        obtain ⟨cs, HCS⟩ : ∃ cs, Hid (cs = op.map F) := ⟨_, Lib.hid rfl⟩
        have hcs : prow F op m = cs := by rw [← HML.out, prow_all, HCS.out]
        rw [hcs] at hO
        have hcb : ∀ x ∈ cs, -80 ≤ x ∧ x ≤ 80 := fun x hx => by
          rw [HCS.out, HF.out, List.mem_map] at hx
          obtain ⟨y, hy, rfl⟩ := hx
          obtain ⟨yk, rfl, hyk⟩ := hop.out y hy
          have h1 := psum_b (N := N) (part := part) (x := (yk : Int)) (fun y hy => by
              obtain ⟨k, rfl, hk⟩ := HPL.out y hy
              exact HN.out yk k hyk hk) part.length
          rw [psum_all] at h1
          omega
        have hsv := Lib.hid (fSolve g mb cnt D N S AN AP (some ad) n cN np cP nq cq (some adO) (some ⟨gc, 0, none⟩) m c2 m op cs wr (HBN.out.below hb') hn (hOr.more hb'.size) hO.ri hm3 hop.out hS HN.out hcb)
        have HNL : Hid (numL S N Ls n i p = nth (solL (tabL S N op) m cs) a) := Lib.hid (by
          unfold numL csL
          rw [HOP.out, HML.out, HPart.out, HA.out, HCS.out, HF.out]
          rfl)
        have HDL : Hid (denL S N Ls n = det m (tabL S N op)) := Lib.hid (by unfold denL; rw [HOP.out, HML.out])
        have hnum := HNum.out HRN.out
        have hden := HDen.out
        rw [HNL.out] at hnum
        rw [HDL.out] at hden
        have HE : Hid (res = ((((nth (solL (tabL S N op) m cs) a).toNat / Nat.gcd (nth (solL (tabL S N op) m cs) a).toNat (det m (tabL S N op)).toNat : Nat) : Int), (((det m (tabL S N op)).toNat / Nat.gcd (nth (solL (tabL S N op) m cs) a).toNat (det m (tabL S N op)).toNat : Nat) : Int))) := Lib.hid (by rw [← HRes.out]; unfold landR; rw [if_pos HRN.out, HNL.out, HDL.out])
        have hbw := hb'.size
        have hR3 := HR2.out.below (B := w2.heap.size) hb' (by omega)
        have hbA3 := hbA2.trans (hb'.mono (by omega))
        clear hcs hcb hO c4 HNL HDL
        go_wp2_with fail
        refine hsv.out.mono ?_
        rintro e w4 ⟨A4, c4, rfl, hO4, hb4⟩
        obtain ⟨g4, rfl, _, _⟩ := hO4.row hm0
        have hcell := hO4.cell ham
        generalize nth (solL (tabL S N op) m cs) a = num at *
        generalize det m (tabL S N op) = den at *
        obtain ⟨nu, rfl⟩ : ∃ nu : Nat, num = nu := ⟨num.toNat, by omega⟩
        obtain ⟨de, rfl⟩ : ∃ de : Nat, den = de := ⟨den.toNat, by omega⟩
        rw [Int.toNat_natCast, Int.toNat_natCast] at HE
        have hle := Lib.hid (fLeast nu de w4 (by omega) (by omega) (by omega))
        have hR4 := hR3.below hb4 (by omega)
        have hbA4 := hbA3.trans (hb4.mono (by omega))
        have hw4 := hb4.size
        clear hsv hb4 hR3 hbA3
        go_wp2_with fail
        refine hle.out.mono ?_
        rintro e w5 ⟨rfl, hb5⟩
        have hR5 := hR4.below hb5 (by omega)
        have hbA5 := hbA4.trans (hb5.mono (by omega))
        have r0 : w5.cell? ⟨w.heap.size, 0, none⟩ = some (.int .i64 0) := hR5.cell 0
        have r1 : w5.cell? ⟨w.heap.size, 1, none⟩ = some (.int .i64 0) := hR5.cell 1
        have f0 : w5.frozen? ⟨w.heap.size, 0, none⟩ = false := hR5.frozen 0
        have f1 : w5.frozen? ⟨w.heap.size, 1, none⟩ = false := hR5.frozen 1
        generalize nu / nu.gcd de = x at *
        generalize de / nu.gcd de = y at *
        go_wp2
        have hbk : Bk ((w5.setCell ⟨w.heap.size, 0, none⟩ (.int .i64 (x : Int))).setCell ⟨w.heap.size, 1, none⟩ (.int .i64 (y : Int))) w.heap.size 39 #[.int .i64 (x : Int), .int .i64 (y : Int)] := (hR5.set_ 0 (.int .i64 (x : Int))).set_ 1 (.int .i64 (y : Int))
        exact ret_ratio rfl rfl hbk rfl ⟨by rw [HE.out], (hbA5.setCell (p := ⟨w.heap.size, 0, none⟩) (Nat.le_refl _) (.int .i64 (x : Int))).setCell (p := ⟨w.heap.size, 1, none⟩) (Nat.le_refl _) (.int .i64 (y : Int))⟩
  · have hneg : Hid (idx op (i : Int) = -1) := Lib.hid (idx_no hio)
    obtain ⟨ad, AP1, cp1, hAQ, hadg, hadl, hcp, hcpl, hrp, _⟩ := hP2.at_ p part HPart.out
    have HRN : Hid (¬ (i : Int) ∈ opL Ls n) := Lib.hid (by rw [HOP.out]; exact hio)
    rw [hneg.out] at hix
    have hco := Lib.hid (fContains AP1 part.length cp1 w2.heap.size part (i : Int) w2 hrp (by omega))
    subst hAQ
    have r0 : w2.cell? ⟨w.heap.size, 0, none⟩ = some (.int .i64 0) := hR2.cell 0
    have r1 : w2.cell? ⟨w.heap.size, 1, none⟩ = some (.int .i64 0) := hR2.cell 1
    have f0 : w2.frozen? ⟨w.heap.size, 0, none⟩ = false := hR2.frozen 0
    have f1 : w2.frozen? ⟨w.heap.size, 1, none⟩ = false := hR2.frozen 1
    clear hio hrp
    by_cases hip : (i : Int) ∈ part
    · have HE : Hid (res = (1, 1)) := Lib.hid (by rw [← HRes.out]; unfold landR; rw [if_neg HRN.out, HPart.out, Option.getD_some, if_pos hip])
      rw [decide_eq_true hip] at hco
      clear hip
      go_wp2_with first | (go_at_call 151; refine (hix.out).mono ?_; rintro e w5 ⟨rfl, rfl⟩) | (go_at_call 67; refine (hco.out).mono ?_; rintro e w5 ⟨rfl, rfl⟩)
      have hbk : Bk ((w2.setCell ⟨w.heap.size, 0, none⟩ (.int .i64 1)).setCell ⟨w.heap.size, 1, none⟩ (.int .i64 1)) w.heap.size 39 #[.int .i64 1, .int .i64 1] := (hR2.set_ 0 (.int .i64 1)).set_ 1 (.int .i64 1)
      exact ret_ratio rfl rfl hbk rfl ⟨by rw [HE.out], (hbA2.setCell (p := ⟨w.heap.size, 0, none⟩) (Nat.le_refl _) (.int .i64 1)).setCell (p := ⟨w.heap.size, 1, none⟩) (Nat.le_refl _) (.int .i64 1)⟩
    · have HE : Hid (res = (0, 1)) := Lib.hid (by rw [← HRes.out]; unfold landR; rw [if_neg HRN.out, HPart.out, Option.getD_some, if_neg hip])
      rw [decide_eq_false hip] at hco
      clear hip
      go_wp2_with first | (go_at_call 151; refine (hix.out).mono ?_; rintro e w5 ⟨rfl, rfl⟩) | (go_at_call 67; refine (hco.out).mono ?_; rintro e w5 ⟨rfl, rfl⟩)
      have hbk : Bk ((w2.setCell ⟨w.heap.size, 0, none⟩ (.int .i64 0)).setCell ⟨w.heap.size, 1, none⟩ (.int .i64 1)) w.heap.size 39 #[.int .i64 0, .int .i64 1] := (hR2.set_ 0 (.int .i64 0)).set_ 1 (.int .i64 1)
      exact ret_ratio rfl rfl hbk rfl ⟨by rw [HE.out], (hbA2.setCell (p := ⟨w.heap.size, 0, none⟩) (Nat.le_refl _) (.int .i64 0)).setCell (p := ⟨w.heap.size, 1, none⟩) (Nat.le_refl _) (.int .i64 1)⟩
end Go.Proofs.YtibmpjhffeinoaaGreat
