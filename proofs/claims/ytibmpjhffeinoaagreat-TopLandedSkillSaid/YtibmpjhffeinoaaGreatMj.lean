/-
  wheel: 'determinant'.
-/
import Derived.Test.YtibmpjhffeinoaaGreatNd
namespace Go.Proofs.YtibmpjhffeinoaaGreat
open Go.RowKit Go.Shelf Go.Maps

def sgn (k : Nat) : Int := if k % 2 = 0 then 1 else -1
theorem sgn_succ (k : Nat) : -(sgn k) = sgn (k + 1) := by
  unfold sgn
  split <;> split <;> omega
/-- What is left without the first row, and without a column. -/
def minor (Ls : List (List Int)) (k : Nat) : List (List Int) := (Ls.drop 1).map fun L => L.eraseIdx k
def dsum (d : List (List Int) → Int) (Ls : List (List Int)) : Nat → Int
  | 0 => 0
  | k + 1 => dsum d Ls k + sgn k * nth (Ls[0]?.getD []) k * d (minor Ls k)
/-- The determinant. -/
def det : Nat → List (List Int) → Int
  | 0 => fun _ => 1
  | n + 1 => fun Ls => dsum (det n) Ls (n + 1)
/-- Numbers of tables. -/
def BndL (Ls : List (List Int)) : Prop := ∀ L ∈ Ls, ∀ x ∈ L, -80 ≤ x ∧ x ≤ 80
theorem BndL.minor {Ls : List (List Int)} (h : BndL Ls) (k : Nat) : BndL (minor Ls k) := fun L hL x hx => by
  unfold Go.Proofs.YtibmpjhffeinoaaGreat.minor at hL
  rw [List.mem_map] at hL
  obtain ⟨M, hM, rfl⟩ := hL
  exact h M (List.mem_of_mem_drop hM) x (List.mem_of_mem_eraseIdx hx)
theorem BndL.nth {Ls : List (List Int)} (h : BndL Ls) (i k : Nat) : -80 ≤ nth (Ls[i]?.getD []) k ∧ nth (Ls[i]?.getD []) k ≤ 80 := by
  unfold Go.Proofs.YtibmpjhffeinoaaGreat.nth
  cases hL : Ls[i]? with
  | none => simp
  | some L =>
    simp only [Option.getD_some]
    cases hx : L[k]? with
    | none => simp
    | some x => exact h L (List.mem_of_getElem? hL) x (List.mem_of_getElem? hx)
theorem mul_b {x y a b : Int} (hx : -a ≤ x ∧ x ≤ a) (hy : -b ≤ y ∧ y ≤ b) : -(a * b) ≤ x * y ∧ x * y ≤ a * b := by
  have h1 : x.natAbs ≤ a.natAbs := by omega
  have h2 : y.natAbs ≤ b.natAbs := by omega
  have h3 : (x * y).natAbs ≤ a.natAbs * b.natAbs := by rw [Int.natAbs_mul]; exact Nat.mul_le_mul h1 h2
  have h4 : ((a.natAbs * b.natAbs : Nat) : Int) = a * b := by
    rw [Int.natCast_mul, Int.natAbs_of_nonneg (by omega), Int.natAbs_of_nonneg (by omega)]
  omega
theorem sgn_b (k : Nat) {x : Int} (hx : -80 ≤ x ∧ x ≤ 80) : -80 ≤ sgn k * x ∧ sgn k * x ≤ 80 := by
  unfold sgn
  split <;> omega
theorem det_b2 {Ls : List (List Int)} (h : BndL Ls) : ∀ n : Nat, n ≤ 2 → -12800 ≤ det n Ls ∧ det n Ls ≤ 12800 := fun n hn => by
  have h1 : ∀ {Ls : List (List Int)}, BndL Ls → -80 ≤ det 1 Ls ∧ det 1 Ls ≤ 80 := fun {Ls} h => by
    show -80 ≤ 0 + sgn 0 * nth (Ls[0]?.getD []) 0 * 1 ∧ 0 + sgn 0 * nth (Ls[0]?.getD []) 0 * 1 ≤ 80
    have := sgn_b 0 (h.nth 0 0)
    omega
  have e : n = 0 ∨ n = 1 ∨ n = 2 := by omega
  rcases e with rfl | rfl | rfl
  · show -12800 ≤ (1 : Int) ∧ (1 : Int) ≤ 12800
    decide
  · have := h1 h
    omega
  · show -12800 ≤ 0 + sgn 0 * nth (Ls[0]?.getD []) 0 * det 1 (minor Ls 0) + sgn 1 * nth (Ls[0]?.getD []) 1 * det 1 (minor Ls 1) ∧ 0 + sgn 0 * nth (Ls[0]?.getD []) 0 * det 1 (minor Ls 0) + sgn 1 * nth (Ls[0]?.getD []) 1 * det 1 (minor Ls 1) ≤ 12800
    have a := mul_b (sgn_b 0 (h.nth 0 0)) (h1 (h.minor 0))
    have b := mul_b (sgn_b 1 (h.nth 0 1)) (h1 (h.minor 1))
    omega
theorem term_b {n : Nat} {Ls : List (List Int)} (h : BndL Ls) (hn : n ≤ 2) (k : Nat) : -1024000 ≤ sgn k * nth (Ls[0]?.getD []) k * det n (minor Ls k) ∧ sgn k * nth (Ls[0]?.getD []) k * det n (minor Ls k) ≤ 1024000 :=
  mul_b (sgn_b k (h.nth 0 k)) (det_b2 (h.minor k) n hn)
theorem dsum_b {n : Nat} {Ls : List (List Int)} (h : BndL Ls) (hn : n ≤ 2) : ∀ k : Nat, -(1024000 * (k : Int)) ≤ dsum (det n) Ls k ∧ dsum (det n) Ls k ≤ 1024000 * (k : Int)
  | 0 => by simp [dsum]
  | k + 1 => by
    have h1 := dsum_b h hn k
    have h2 := term_b h hn k
    show _ ≤ dsum (det n) Ls k + _ ∧ dsum (det n) Ls k + _ ≤ _
    rw [Int.natCast_add]
    omega
theorem Mv.tail {w : World} {B n : Nat} {ad : Addr} {Ls : List (List Int)} (h : Mv w B (some ad) (n + 1) Ls) : Mv w B (some (ad.add 1)) n (Ls.drop 1) := ⟨by rw [List.length_drop, h.1]; rfl, fun i L hi => by
  rw [List.getElem?_drop] at hi
  obtain ⟨ad', A', c', e, h1, h2, h3, h4⟩ := h.2 _ L hi
  cases e
  exact ⟨_, A', c', rfl, by rw [addr_block]; exact h1, by rw [addr_add]; exact h2, h3, h4⟩⟩
theorem minor_take {Ls : List (List Int)} {k i : Nat} {L : List Int} (h : (Ls.drop 1)[i]? = some L) : (minor Ls k).take (i + 1) = (minor Ls k).take i ++ [L.eraseIdx k] := by
  unfold minor
  rw [List.take_add_one, List.getElem?_map, h]
  rfl
set_option maxRecDepth 100000 in
set_option maxHeartbeats 3200000 in
theorem fDetS (n n1 : Nat) (hn : n ≤ 2) (hn1 : n1 = n + 1) (ih : ∀ (A : Option Addr) (c : Nat) (Ls : List (List Int)) (w : World), Mv w w.heap.size A n Ls → n ≤ c → (∀ L ∈ Ls, L.length = n) → BndL Ls → Calls Tryz.prog 280 #[.slice A n c] w fun e w' => e = .returned (.int .i64 (det n Ls)) ∧ Below w.heap.size w w')
    (A : Option Addr) (c : Nat) (Ls : List (List Int)) (w : World) (hmv : Mv w w.heap.size A n1 Ls) (hc : n1 ≤ c) (hl : ∀ L ∈ Ls, L.length = n1) (hb : BndL Ls) :
    Calls Tryz.prog 280 #[.slice A n1 c] w fun e w' => e = .returned (.int .i64 (det n1 Ls)) ∧ Below w.heap.size w w' := by
  have HL := Lib.hid hmv.1
  have HR := Lib.hid hl
  have HB := Lib.hid hb
  have HI := Lib.hid ih
  clear hl hb ih
  have H1 := Lib.hid hn1
  obtain ⟨row, hrow⟩ : ∃ row, Ls[0]? = some row := ⟨_, List.getElem?_eq_getElem (by rw [HL.out]; omega)⟩
  have hrl := HR.out row (List.mem_of_getElem? hrow)
  have HX : Hid (∀ k, nth (Ls[0]?.getD []) k = nth row k) := Lib.hid fun k => by rw [hrow]; rfl
  obtain ⟨ad, A0, c0, rfl, hadb, hc0, hcc, hr0⟩ := hmv.2 0 row hrow
  have HMT : Hid (Mv w w.heap.size (some (ad.add 1)) n (Ls.drop 1)) := Lib.hid (Mv.tail (by rw [← hn1]; exact hmv))
  obtain ⟨ad1, HAD⟩ : ∃ a, Hid (ad.add 1 = a) := ⟨_, Lib.hid rfl⟩
  rw [HAD.out] at HMT
  rw [hrl] at hc0 hr0 hcc
  clear hrow hrl hmv
  obtain ⟨z0, HZ0⟩ : ∃ z, Hid (dsum (det n) Ls n1 = z) := ⟨_, Lib.hid rfl⟩
  rw [show det n1 Ls = z0 from by rw [← HZ0.out, hn1]; rfl]
  have HD0 : Hid (dsum (det n) Ls 0 = 0) := Lib.hid rfl
  have HS0 : Hid (sgn 0 = 1) := Lib.hid rfl
  have h1n : ((n1 : Int) == 0) = false := by simp; omega
  have h0n : 0 < n1 := by omega
  have h1c : 1 ≤ c := by omega
  have hnn : n < n1 := by omega
  have hn3 : n1 ≤ n + 1 := by omega
  have hlen1 : n1 - 1 = n := by omega
  have HLE := Lib.hid hlen1
  clear hn1 hlen1
  rw [addr_zero] at hc0
  go_enter Tryz.func280, Tryz.ntmps280
  go_wp2
  go_loopw [3, 4, 5, 6, 7, 9, 17, 25] (fun t3 t4 _ _ _ _ t17 _ wr => ∃ (k : Nat) (z s : Int), k ≤ n1 ∧ t17 = .int .i64 (k : Int) ∧ t3 = .int .i64 z ∧ t4 = .int .i64 s ∧ Hid (dsum (det n) Ls k = z) ∧ Hid (sgn k = s) ∧ Below w.heap.size w wr) (fun _ _ _ _ _ _ t17 _ _ => n1 - (intOf t17).toNat)
  case atStart => exact ⟨0, 0, 1, Nat.zero_le _, rfl, rfl, rfl, HD0, HS0, Below.refl _ _⟩
  case round =>
    clear HD0 HS0
    obtain ⟨k, z, s, hk, rfl, rfl, rfl, HZ, HSg, hb⟩ := hrel
    have hbs := hb.size
    by_cases hkn : k < n1
    · obtain ⟨a0, x, rfl, _, hcx, _, HXg⟩ := (hr0.below hb).at_ hkn
      go_upto_region 8 with fail
      go_cut [22, 23, 24, 25] (fun s22 s23 s24 s25 wx => wx = wr ∧ ∃ A23, s23 = .slice A23 n (c - 1) ∧ s24 = .int .i64 (n : Int) ∧ s25 = .int .i64 0 ∧ Hid (0 < n → A23 = some ad1))
      case first =>
        by_cases hd : c = 1
        · have hn0 : Hid (¬ 0 < n) := Lib.hid (by omega)
          go_wp2
          go_meet
          exact ⟨rfl, some ad, by rw [HLE.out, hd], by rw [HLE.out], rfl, Lib.hid fun h => absurd h hn0.out⟩
        · go_wp2
          go_meet
          exact ⟨rfl, some ad1, by rw [HLE.out, ← HAD.out]; rfl, by rw [HLE.out], rfl, Lib.hid fun _ => rfl⟩
      case rest =>
        obtain ⟨rfl, A23, rfl, rfl, rfl, HA⟩ := hcut
        have HXk : Hid (nth (Ls[0]?.getD []) k = x) := Lib.hid (by rw [HX.out]; exact HXg.out.symm)
        have hM0 : Hid ((minor Ls k).take 0 = []) := Lib.hid (by simp)
        clear hcx
        go_wp2
        go_loopw [7, 9, 25] (fun t7 _ t25 wr' => ∃ (A7 : Option Addr) (c7 i : Nat), i ≤ n ∧ t25 = .int .i64 (i : Int) ∧ t7 = .slice A7 i c7 ∧ Rw 23 wr' w.heap.size A7 i c7 ((minor Ls k).take i) ∧ Below w.heap.size w wr') (fun _ _ t25 _ => n - (intOf t25).toNat)
        case atStart => exact ⟨none, 0, 0, Nat.zero_le _, rfl, rfl, by rw [hM0.out]; exact Rw.nil_ _ _ _, hb⟩
        case round =>
          clear hM0 hb hbs
          obtain ⟨A7, c7, i, hi, rfl, rfl, hR, hb⟩ := hrel
          have hbs := hb.size
          by_cases hin : i < n
          · have hA : A23 = some ad1 := HA.out (by omega)
            subst hA
            have hmt := HMT.out.below hb
            obtain ⟨L, hL⟩ : ∃ L, (Ls.drop 1)[i]? = some L := ⟨_, List.getElem?_eq_getElem (by rw [hmt.1]; exact hin)⟩
            have hlen := HR.out L (List.mem_of_mem_drop (List.mem_of_getElem? hL))
            have HMi := Lib.hid (minor_take (k := k) hL)
            obtain ⟨ad2, A2, c2, e2, _, h2, h2c, hr2⟩ := hmt.2 i L hL
            cases e2
            rw [hlen] at h2 h2c hr2
            have HLn := Lib.hid hlen
            clear hL hlen hmt
            have hr3 := hr2.more hbs
            go_wp2_with fail
            refine (fClone _ _ _ _ _ hr3 h0n (by omega)).mono ?_
            rintro e w2 ⟨gc, cc, rfl, hO, hb2⟩
            have hb3 := hb.trans (hb2.mono hbs)
            have hk1 : ((k : Int) + 1) = ((k + 1 : Nat) : Int) := rfl
            have HD := Lib.hid (fDelete wr.heap.size gc n1 cc k (k + 1) L w2 hO hkn rfl (by omega))
            clear hk1
            go_wp2_with fail
            refine HD.out.mono ?_
            rintro e w3 ⟨rfl, hO3, hg3⟩
            rw [HLE.out] at hO3
            have hgc := (hO.lt gc rfl).1
            have hb2' : Below wr.heap.size wr w3 := hb2.grown hg3 hb2.size (fun q hq => by cases hq; exact hgc)
            have hb4 := hb.trans (hb2'.mono hbs)
            have hR3 := hR.below hb2'
            have hne : ∀ q, A7.map Addr.block = some q → q < wr.heap.size := fun q hq => (hR.lt q hq).2
            have hncc : n ≤ cc := by
              have := hO3.2
              rcases this with ⟨e, _⟩ | ⟨g', cap, cur, e, _, _, h3, _⟩
              · cases e
              · cases e; exact h3
            have hws := hb4.size
            clear HD hO hb2 hb3 hg3 hR hr3 hr2 h2 hb hb2'
            rw [HLE.out]
            go_wp2_with (at_builtin; refine push_row rowT_i64 rfl (.tmp 29) (.tmp 36) rfl w.heap.size A7 i c7 ((minor Ls k).take i) rfl (hR3.alloc _) ⟨w3.heap.size, 0, none⟩ 1 (some ⟨gc, 0, none⟩) n cc (L.eraseIdx k) rfl (cell_new1 _ _ _) (by omega) (by simp only [World.size_alloc]; omega) (hO3.alloc _).ri hncc (fun _ ad' e' h' => (by cases e'; have q2 := hne gc h'; omega)) ?_; intro g1 cap1 w4 hR4 hg4; have hb5 := (hb4.alloc hws (.cells #[.slice (some ⟨gc, 0, none⟩) n cc] 23)).grown hg4 (by simp only [World.size_alloc]; omega) (fun k hk => (hR3.lt k hk).1); clear hR3)
            rw [← HMi.out] at hR4
            go_roundw
            case rel => exact ⟨some ⟨g1, 0, none⟩, cap1, i + 1, by omega, by go_num, rfl, hR4, hb5⟩
            case measure => simp [intOf]; omega
          · obtain rfl : n = i := by omega
            have hml : (minor Ls k).length = n := by unfold minor; rw [List.length_map, HMT.out.1]
            rw [List.take_of_length_le (by omega)] at hR
            have hmr : ∀ M ∈ minor Ls k, M.length = n := fun M hM => by
              unfold minor at hM
              rw [List.mem_map] at hM
              obtain ⟨M', hM', rfl⟩ := hM
              have := HR.out M' (List.mem_of_mem_drop hM')
              rw [List.length_eraseIdx, if_pos (by omega)]
              omega
            have HD := Lib.hid (HI.out A7 c7 (minor Ls k) wr hR.mv hR.cap hmr (HB.out.minor k))
            have hdb := det_b2 (HB.out.minor k) n hn
            have htb := term_b HB.out hn k
            have hzb := dsum_b HB.out hn (k + 1)
            have hzb0 := dsum_b HB.out hn k
            have hsb := sgn_b k (HB.out.nth 0 k)
            have HZ2 : Hid (dsum (det n) Ls (k + 1) = dsum (det n) Ls k + sgn k * nth (Ls[0]?.getD []) k * det n (minor Ls k)) := Lib.hid rfl
            have HS2 : Hid (-s = sgn (k + 1)) := Lib.hid (by rw [← HSg.out]; exact sgn_succ k)
            have hs1 : -1 ≤ s ∧ s ≤ 1 := by rw [← HSg.out]; unfold sgn; split <;> omega
            rw [HXk.out] at htb hsb HZ2
            rw [HSg.out] at htb hsb HZ2
            rw [HZ.out] at hzb0 HZ2
            rw [HZ2.out] at hzb
            clear hml hmr
            go_wp2_with fail
            refine HD.out.mono ?_
            rintro e w2 ⟨rfl, hb2⟩
            have hb3 := hb.trans (hb2.mono hbs)
            clear HD hb2 hR hb hbs
            generalize det n (minor Ls k) = dk at *
            obtain ⟨sx, hsx⟩ : ∃ sx, s * x = sx := ⟨_, rfl⟩
            rw [hsx] at htb hsb HZ2 hzb
            obtain ⟨p, hp⟩ : ∃ p, sx * dk = p := ⟨_, rfl⟩
            rw [hp] at htb HZ2 hzb
            have hk3 : (k : Int) ≤ 2 := by omega
            have hzb1 : -3072000 ≤ z ∧ z ≤ 3072000 := by omega
            have hzb2 : -3072000 ≤ z + p ∧ z + p ≤ 3072000 := by omega
            clear hzb hzb0 hk3
            go_wp2
            go_roundw
            case rel => exact ⟨k + 1, z + p, -s, by omega, by go_num, rfl, rfl, HZ2, Lib.hid HS2.out.symm, hb3⟩
            case measure => simp [intOf]; omega
    · obtain rfl : n1 = k := by omega
      have HE : Hid (z = z0) := Lib.hid (by rw [← HZ.out, HZ0.out])
      go_wp2
      go_ret
      exact ⟨by rw [HE.out]; rfl, hb⟩
set_option maxRecDepth 100000 in
set_option maxHeartbeats 400000 in
theorem fDet0 (A : Option Addr) (c : Nat) (Ls : List (List Int)) (w : World) : Calls Tryz.prog 280 #[.slice A 0 c] w fun e w' => e = .returned (.int .i64 (det 0 Ls)) ∧ Below w.heap.size w w' := by
  have h1 : Hid (det 0 Ls = 1) := Lib.hid rfl
  rw [h1.out]
  go_enter Tryz.func280, Tryz.ntmps280
  go_wp2
  go_ret
  exact ⟨rfl, Below.refl _ _⟩
theorem fDet : ∀ n : Nat, n ≤ 3 → ∀ (A : Option Addr) (c : Nat) (Ls : List (List Int)) (w : World), Mv w w.heap.size A n Ls → n ≤ c → (∀ L ∈ Ls, L.length = n) → BndL Ls → Calls Tryz.prog 280 #[.slice A n c] w fun e w' => e = .returned (.int .i64 (det n Ls)) ∧ Below w.heap.size w w'
  | 0, _, A, c, Ls, w, _, _, _, _ => fDet0 A c Ls w
  | n + 1, hn, A, c, Ls, w, hmv, hc, hl, hb => fDetS n (n + 1) (by omega) rfl (fDet n (by omega)) A c Ls w hmv hc hl hb
end Go.Proofs.YtibmpjhffeinoaaGreat
