/-
  pennyfallref01: bits; 'Listed'.
  pennyfallref01: 'Leads'.
  Rows of slices of ints that the call itself makes, and grows.
  pennyfallref01: 'PartsOf'.
-/
import Derived.Test.YtibmpjhffeinoaaGreatLv
import Derived.Test.YtibmpjhffeinoaaGreatLl
import Derived.Test.YtibmpjhffeinoaaGreatLx
namespace Go.Proofs.YtibmpjhffeinoaaGreat
open Go.RowKit Go.Shelf

theorem bit_and : ∀ b : Nat, b < 16 → ∀ k : Nat, k < 4 → bits BinOp.and IntKind.i64 ((b : Int) / 2 ^ k) 1 = if b.testBit k then 1 else 0 := by decide +kernel
theorem bit_or : ∀ a : Nat, a < 16 → ∀ b : Nat, b < 16 → bits BinOp.or IntKind.i64 (a : Int) (b : Int) = ((a ||| b : Nat) : Int) := by decide +kernel
theorem bit_yes {b k : Nat} (hb : b < 16) (hk : k < 4) (h : b.testBit k = true) : bits BinOp.and IntKind.i64 ((b : Int) / 2 ^ k) 1 = 1 := by rw [bit_and b hb k hk, if_pos h]
theorem bit_no {b k : Nat} (hb : b < 16) (hk : k < 4) (h : ¬ b.testBit k = true) : bits BinOp.and IntKind.i64 ((b : Int) / 2 ^ k) 1 = 0 := by rw [bit_and b hb k hk, if_neg h]
theorem or_lt : ∀ a : Nat, a < 16 → ∀ b : Nat, b < 16 → a ||| b < 16 := by decide +kernel
/-- The numbers that bits say. -/
def lst (b n : Nat) : List Int := ((List.range n).filter fun k => b.testBit k).map Int.ofNat
theorem lst_yes {b k : Nat} (h : b.testBit k = true) : lst b (k + 1) = lst b k ++ [(k : Int)] := by
  unfold lst
  rw [List.range_succ, List.filter_append, List.map_append]
  simp [h]
theorem lst_no {b k : Nat} (h : ¬ b.testBit k = true) : lst b (k + 1) = lst b k := by
  unfold lst
  rw [List.range_succ, List.filter_append, List.map_append]
  simp [h]
set_option maxRecDepth 100000 in
set_option maxHeartbeats 800000 in
theorem rListed (b n : Nat) (w : World) (hb : b < 16) (hn : n ≤ 4) :
    Calls Tryz.prog 58 #[.int .i64 (b : Int), .int .i64 (n : Int)] w fun e w' => ∃ A m c, e = .returned (.slice A m c) ∧ Oj w' w.heap.size A m c (lst b n) ∧ Below w.heap.size w w' := by
  have HL0 : Hid (lst b 0 = []) := Lib.hid rfl
  go_enter Tryz.func58, Tryz.ntmps58
  go_wp2
  go_loopw [5, 6] (fun t5 t6 wr => ∃ (k m c : Nat) (A : Option Addr), k ≤ n ∧ m ≤ k ∧ t6 = .int .i64 (k : Int) ∧ t5 = .slice A m c ∧ Oj wr w.heap.size A m c (lst b k) ∧ Below w.heap.size w wr) (fun _ t6 _ => n - (intOf t6).toNat)
  case atStart => exact ⟨0, 0, 0, none, Nat.zero_le _, Nat.le_refl _, rfl, rfl, by rw [HL0.out]; exact Oj.nil_ _ _, Below.refl _ _⟩
  case round =>
    obtain ⟨k, m, c, A, hk, hmk, rfl, rfl, ho, hbl⟩ := hrel
    have hbs := hbl.size
    by_cases hlt : k < n
    · by_cases ht : b.testBit k = true
      · have hbit := bit_yes hb (by omega) ht
        have HY := Lib.hid (lst_yes ht)
        clear ht
        go_wp2_with (at_builtin; refine push_num rfl (.tmp 17) (.tmp 19) rfl w.heap.size A m c (lst b k) rfl (ho.alloc _) ⟨wr.heap.size, 0, none⟩ 1 _ rfl (cell_new1 _ _ _) (by omega) (by simp only [World.size_alloc]; omega) ?_; intro g1 cap1 v1 ho1 hg1; have hb1 := Oj.pushed ho hbl hbs (Nat.le_refl _) hg1)
        rw [← HY.out] at ho1
        exact ⟨⟨k + 1, m + 1, cap1, _, by omega, by omega, by go_num, rfl, ho1, hb1⟩, by simp [intOf]; omega⟩
      · have hbit := bit_no hb (by omega) ht
        have HY := Lib.hid (lst_no ht)
        clear ht
        rw [← HY.out] at ho
        go_wp2
        exact ⟨⟨k + 1, m, c, A, by omega, by omega, by go_num, rfl, ho, hbl⟩, by simp [intOf]; omega⟩
    · obtain rfl : n = k := by omega
      go_wp2
      go_ret
      exact ⟨A, m, c, rfl, ho, hbl⟩
end Go.Proofs.YtibmpjhffeinoaaGreat

namespace Go.Proofs.YtibmpjhffeinoaaGreat
open Go.RowKit Go.Shelf

/-- Numbers that are bits. -/
def nat (v : List Nat) (i : Nat) : Nat := v[i]?.getD 0
/-- One turn is seen. -/
def ldS (N : Nat → Nat → Int) (v : List Nat) (i k : Nat) : List Nat := if 0 < N i k then v.set i (nat v i ||| (2 ^ k ||| nat v k)) else v
def ld1 (N : Nat → Nat → Int) (v : List Nat) (i : Nat) : Nat → List Nat
  | 0 => v
  | k + 1 => ldS N (ld1 N v i k) i k
def ld2 (N : Nat → Nat → Int) (n : Nat) (v : List Nat) : Nat → List Nat
  | 0 => v
  | i + 1 => ld1 N (ld2 N n v i) i n
def ld3 (N : Nat → Nat → Int) (n : Nat) : Nat → List Nat
  | 0 => List.replicate n 0
  | r + 1 => ld2 N n (ld3 N n r) n
/-- n numbers below 16. -/
def Bits (n : Nat) (v : List Nat) : Prop := v.length = n ∧ ∀ x ∈ v, x < 16
theorem Bits.at_ {n : Nat} {v : List Nat} (h : Bits n v) (i : Nat) : nat v i < 16 := by
  unfold nat
  cases e : v[i]? with
  | none => simp
  | some x => exact h.2 x (List.mem_of_getElem? e)
theorem pow_lt : ∀ k : Nat, k < 4 → 2 ^ k < 16 := by decide
theorem Bits.set_ {n i x : Nat} {v : List Nat} (h : Bits n v) (hx : x < 16) : Bits n (v.set i x) := ⟨by rw [List.length_set]; exact h.1, fun y hy => by
  rcases List.mem_or_eq_of_mem_set hy with h1 | h1
  · exact h.2 y h1
  · rw [h1]; exact hx⟩
theorem ldS_b {N : Nat → Nat → Int} {n : Nat} {v : List Nat} {i k : Nat} (h : Bits n v) (hk : k < 4) : Bits n (ldS N v i k) := by
  unfold ldS
  split
  · exact h.set_ (or_lt _ (h.at_ i) _ (or_lt _ (pow_lt k hk) _ (h.at_ k)))
  · exact h
def natI (v : List Nat) : List Int := v.map Int.ofNat
theorem natI_set (v : List Nat) (i x : Nat) : natI (v.set i x) = (natI v).set i (x : Int) := by
  unfold natI
  rw [List.map_set]
  rfl
theorem natI_nth (v : List Nat) (i : Nat) : nth (natI v) i = (nat v i : Int) := by
  unfold nth natI nat
  rw [List.getElem?_map]
  cases v[i]? <;> rfl
theorem bit_or2 : ∀ a : Nat, a < 16 → ∀ k : Nat, k < 4 → ∀ b : Nat, b < 16 → bits BinOp.or IntKind.i64 (a : Int) (bits BinOp.or IntKind.i64 (wrap64 (2 ^ k)) (b : Int)) = ((a ||| (2 ^ k ||| b) : Nat) : Int) := by decide +kernel
set_option maxRecDepth 100000 in
set_option maxHeartbeats 3200000 in
theorem rLeads (AN AP : Option Addr) (n cN np cP : Nat) (S : Int) (Ls : List (List Int)) (w : World) (hmv : Mv w w.heap.size AN n Ls) (hn : n ≤ 4) (hLs : ∀ L ∈ Ls, L.length = n) (N : Nat → Nat → Int) (hN : ∀ i k, N i k = nth (Ls[i]?.getD []) k) :
    Calls Tryz.prog 57 #[.agg #[.int .i64 S, .slice AN n cN, .slice AP np cP]] w fun e w' => ∃ g, e = .returned (.slice (some ⟨g, 0, none⟩) n n) ∧ Oj w' w.heap.size (some ⟨g, 0, none⟩) n n (natI (ld3 N n (n + 1))) ∧ Bits n (ld3 N n (n + 1)) ∧ Below w.heap.size w w' := by
  have HL := Lib.hid hmv.1
  have HR := Lib.hid hLs
  have HN := Lib.hid hN
  clear hLs hN
  have hb1 := (Below.refl w.heap.size w).alloc (Nat.le_refl _) (.cells #[.int .i64 S, .slice AN n cN, .slice AP np cP] 25)
  have hbk := Bk.new w 25 #[.int .i64 S, .slice AN n cN, .slice AP np cP]
  generalize hW : w.alloc (.cells #[.int .i64 S, .slice AN n cN, .slice AP np cP] 25) = W at *
  have hs : W.heap.size = w.heap.size + 1 := by rw [← hW]; simp
  have c1 : W.cell? ⟨w.heap.size, 1, none⟩ = some (.slice AN n cN) := hbk.cell 1
  go_enter Tryz.func57, Tryz.ntmps57
  go_wp2_with (at_make; refine make_nums rfl (.tmp 11) (.tmp 11) rfl n (n : Int) rfl rfl rfl (by omega) ?_; intro w1 ho1 hb2)
  rw [hs] at ho1 hb2
  have hO : Oj w1 (w.heap.size + 1) (some ⟨w.heap.size + 1, 0, none⟩) n n (natI (ld3 N n 0)) := by
    have : natI (ld3 N n 0) = List.replicate n 0 := by simp [natI, ld3]
    rw [this]
    exact ho1
  have hB0 : Hid (Bits n (ld3 N n 0)) := Lib.hid ⟨by simp [ld3], fun x hx => by simp [ld3] at hx; omega⟩
  clear ho1 hs
  go_loopw [5, 6, 7] (fun t5 _ _ wr => ∃ r : Nat, r ≤ n + 1 ∧ t5 = .int .i64 (r : Int) ∧ Oj wr (w.heap.size + 1) (some ⟨w.heap.size + 1, 0, none⟩) n n (natI (ld3 N n r)) ∧ Hid (Bits n (ld3 N n r)) ∧ Below (w.heap.size + 1) W wr) (fun t5 _ _ _ => n + 1 - (intOf t5).toNat)
  case atStart => exact ⟨0, Nat.zero_le _, rfl, hO, hB0, hb2⟩
  case round =>
    clear hO hB0 hb2
    obtain ⟨r, hr, rfl, hO, hBt, hB⟩ := hrel
    by_cases hlr : r ≤ n
    · have e0 : Hid (ld3 N n r = ld2 N n (ld3 N n r) 0) := Lib.hid rfl
      have HE : Hid (ld3 N n (r + 1) = ld2 N n (ld3 N n r) n) := Lib.hid rfl
      generalize ld3 N n r = v at *
      rw [e0.out] at hO hBt
      clear e0
      go_wp2
      go_loopw [6, 7] (fun t6 _ wr => ∃ i : Nat, i ≤ n ∧ t6 = .int .i64 (i : Int) ∧ Oj wr (w.heap.size + 1) (some ⟨w.heap.size + 1, 0, none⟩) n n (natI (ld2 N n v i)) ∧ Hid (Bits n (ld2 N n v i)) ∧ Below (w.heap.size + 1) W wr) (fun t6 _ _ => n - (intOf t6).toNat)
      case atStart => exact ⟨0, Nat.zero_le _, rfl, hO, hBt, hB⟩
      case round =>
        clear hO hBt hB
        obtain ⟨i, hi, rfl, hO, hBt, hB⟩ := hrel
        by_cases hin : i < n
        · have e0 : Hid (ld2 N n v i = ld1 N (ld2 N n v i) i 0) := Lib.hid rfl
          have HE2 : Hid (ld2 N n v (i + 1) = ld1 N (ld2 N n v i) i n) := Lib.hid rfl
          generalize ld2 N n v i = u at *
          rw [e0.out] at hO hBt
          clear e0
          go_wp2
          go_loopw [7] (fun t7 wr => ∃ k : Nat, k ≤ n ∧ t7 = .int .i64 (k : Int) ∧ Oj wr (w.heap.size + 1) (some ⟨w.heap.size + 1, 0, none⟩) n n (natI (ld1 N u i k)) ∧ Hid (Bits n (ld1 N u i k)) ∧ Below (w.heap.size + 1) W wr) (fun t7 _ => n - (intOf t7).toNat)
          case atStart => exact ⟨0, Nat.zero_le _, rfl, hO, hBt, hB⟩
          case round =>
            clear hO hBt hB
            obtain ⟨k, hk, rfl, hO, hBt, hB⟩ := hrel
            have d1 := (hB.cell (p := ⟨w.heap.size, 1, none⟩) (by show w.heap.size < _; omega)).trans c1
            have hbw := hb1.trans (hB.mono (by omega))
            by_cases hkn : k < n
            · have hL : Ls[i]? = some (Ls[i]'(by rw [HL.out]; exact hin)) := List.getElem?_eq_getElem (by rw [HL.out]; exact hin)
              have hlen := HR.out _ (List.mem_of_getElem? hL)
              obtain ⟨ad, A1, c1', rfl, hadl, h2, _, hrL⟩ := (hmv.below hbw).2 i _ hL
              have HLi := Lib.hid hL
              generalize Ls[i]'(by rw [HL.out]; exact hin) = L at *
              clear hL
              rw [hlen] at h2 hrL
              obtain ⟨adx, x, rfl, _, hcx, _, HXg⟩ := hrL.at_ hkn
              have HNx : Hid (N i k = x) := Lib.hid (by rw [HN.out, HLi.out]; exact HXg.out.symm)
              by_cases hp : 0 < x
              · have hci := hO.cell hin
                have hck := hO.cell hkn
                have hfi := hO.frozen i
                rw [natI_nth] at hci hck
                have hbi := hBt.out.at_ i
                have hbkk := hBt.out.at_ k
                have HS : Hid (ld1 N u i (k + 1) = (ld1 N u i k).set i (nat (ld1 N u i k) i ||| (2 ^ k ||| nat (ld1 N u i k) k))) := Lib.hid (by show ldS N (ld1 N u i k) i k = _; unfold ldS; rw [HNx.out, if_pos hp])
                have HB2 : Hid (Bits n (ld1 N u i (k + 1))) := Lib.hid (ldS_b hBt.out (by omega))
                generalize nat (ld1 N u i k) i = vi at *
                generalize nat (ld1 N u i k) k = vk at *
                have hor := bit_or2 vi hbi k (by omega) vk hbkk
                obtain ⟨z, hz⟩ : ∃ z, vi ||| (2 ^ k ||| vk) = z := ⟨_, rfl⟩
                rw [hz] at hor HS
                clear hz
                have k1 : wr.drew.cell? ⟨w.heap.size + 1, i, none⟩ = some (.int .i64 (vi : Int)) := hci
                have k2 : wr.drew.cell? ⟨w.heap.size + 1, k, none⟩ = some (.int .i64 (vk : Int)) := hck
                have hO2 : Oj wr.drew (w.heap.size + 1) (some ⟨w.heap.size + 1, 0, none⟩) n n (natI (ld1 N u i k)) := hO
                have hfi2 : wr.drew.frozen? ⟨w.heap.size + 1, i, none⟩ = false := hfi
                have hB2 := below_drewN hB 1
                change Below (w.heap.size + 1) W wr.drew at hB2
                go_wp2
                refine wp_region_still_tail 13 (by kernel_rfl) (by kernel_rfl) ?_
                simp only [List.take_succ_cons, List.take_zero, List.drop_succ_cons, List.drop_zero]
                change wpStill _ _ wr.drew _ _ _
                iterate 13 still_step
                refine wpStill_nil ?_
                go_wp2
                have hO3 := hO.put_ i (z : Int)
                rw [← natI_set, ← HS.out] at hO3
                have hB3 := hB.setCell (p := ⟨w.heap.size + 1, i, none⟩) (Nat.le_refl _) (.int .i64 (z : Int))
                exact ⟨⟨k + 1, by omega, by go_num, hO3, HB2, below_drewN hB3 1⟩, by simp [intOf]; omega⟩
              · have HS : Hid (ld1 N u i (k + 1) = ld1 N u i k) := Lib.hid (by show ldS N (ld1 N u i k) i k = _; unfold ldS; rw [HNx.out, if_neg hp])
                rw [← HS.out] at hO hBt
                go_wp2
                exact ⟨⟨k + 1, by omega, by go_num, hO, hBt, hB⟩, by simp [intOf]; omega⟩
            · obtain rfl : n = k := by omega
              rw [← HE2.out] at hO hBt
              go_wp2
              exact ⟨⟨i + 1, by omega, by go_num, hO, hBt, hB⟩, by simp [intOf]; omega⟩
        · obtain rfl : n = i := by omega
          rw [← HE.out] at hO hBt
          go_wp2
          exact ⟨⟨r + 1, by omega, by go_num, hO, hBt, hB⟩, by simp [intOf]; omega⟩
    · obtain rfl : r = n + 1 := by omega
      have hB2 := hb1.trans (hB.mono (by omega))
      go_wp2
      go_ret
      exact ⟨_, rfl, hO.base (by omega), hBt.out, hB2⟩
end Go.Proofs.YtibmpjhffeinoaaGreat

namespace Go.Proofs.YtibmpjhffeinoaaGreat
open Go.RowKit Go.Shelf

/-- What appending needs to know of a type of rows. -/
structure RowT (t e : TypeId) : Prop where
  under : Tryz.prog.underlying t = some (.slice e)
  info : (Tryz.prog.info? e).map (fun i => (i.zero, i.size, i.bytes)) = some (some (.slice none 0 0), 1, 24)
theorem rowT_int : RowT 29 35 := ⟨under_rows, info_row⟩
theorem rowT_i64 : RowT 22 23 := ⟨by kernel_rfl, by kernel_rfl⟩
/-- Rows of numbers in a row of slices of the call's own. -/
structure Rw (e : TypeId) (w : World) (base : Nat) (A : Option Addr) (n c : Nat) (Ls : List (List Int)) : Prop where
  len : Ls.length = n
  own : ∃ olds, w.ownsRow base e 1 (.slice A n c) n olds ∧ ∀ (i : Nat) (L : List Int), Ls[i]? = some L → ∃ A' c', olds[i]? = some (.slice A' L.length c') ∧ L.length ≤ c' ∧ Ri w w.heap.size A' L.length L ∧ (0 < L.length → ∀ ad, A' = some ad → A.map Addr.block ≠ some ad.block)
section
variable {w w' : World} {e t : TypeId} {base B n c : Nat} {A : Option Addr} {Ls : List (List Int)}
theorem Rw.nil_ (e : TypeId) (w : World) (base : Nat) : Rw e w base none 0 0 [] := ⟨rfl, [], World.ownsRow_nil _ _ _ _, fun i L h => by simp at h⟩
theorem Rw.base_ (h : Rw e w base A n c Ls) (hB : B ≤ base) : Rw e w B A n c Ls := by
  obtain ⟨olds, h1, h2⟩ := h.own
  exact ⟨h.len, olds, own_base h1 hB, h2⟩
theorem Rw.below (h : Rw e w base A n c Ls) (hb : Below w.heap.size w w') : Rw e w' base A n c Ls := by
  obtain ⟨olds, h1, h2⟩ := h.own
  refine ⟨h.len, olds, World.ownsRow.kept (row := none) h1 ⟨hb.os, hb.tape, hb.output, hb.size, fun k hk _ => hb.block k hk⟩ (by cases A <;> simp [Value.ownBlock]), fun i L hi => ?_⟩
  obtain ⟨A', c', h3, h4, h5, h6⟩ := h2 i L hi
  exact ⟨A', c', h3, h4, h5.next hb (Nat.le_refl _) hb.size, h6⟩
theorem Rw.alloc (h : Rw e w base A n c Ls) (o : Obj) : Rw e (w.alloc o) base A n c Ls := h.below ((Below.refl _ w).alloc (Nat.le_refl _) o)
theorem Rw.drewN (h : Rw e w base A n c Ls) (k : Nat) : Rw e (w.drewN k) base A n c Ls := ⟨h.len, h.own⟩
theorem Rw.lt (h : Rw e w base A n c Ls) (k : Nat) (hk : A.map Addr.block = some k) : base ≤ k ∧ k < w.heap.size := by
  obtain ⟨olds, h1, h2⟩ := h.own
  exact World.ownsRow.lt h1 k (by cases A <;> simp_all [Value.ownBlock])
theorem Rw.cap (h : Rw e w base A n c Ls) : n ≤ c := by
  obtain ⟨olds, h1, h2⟩ := h.own
  rcases h1.2 with ⟨e, _⟩ | ⟨g, cap, cur, e, _, _, h3, _⟩
  · cases e; exact Nat.le_refl _
  · cases e; exact h3
theorem Rw.mv (h : Rw e w base A n c Ls) : Mv w w.heap.size A n Ls := by
  obtain ⟨olds, h1, h2⟩ := h.own
  refine ⟨h.len, fun i L hi => ?_⟩
  obtain ⟨A', c', h3, h4, h5, _⟩ := h2 i L hi
  have hin : i < n := by
    have := (List.getElem?_eq_some_iff.1 hi).1
    rwa [h.len] at this
  obtain ⟨g, cap, hv, _, hlt⟩ := h1.form (by omega)
  have hA : A = some ⟨g, 0, none⟩ := by injection hv
  subst hA
  exact ⟨_, A', c', rfl, hlt, h1.cells (g := g) rfl i _ h3, h4, h5⟩
theorem Rw.ne_oj {base' g n' c' : Nat} {xs : List Int} (h : Rw e w base A n c Ls) (hO : Oj w base' (some ⟨g, 0, none⟩) n' c' xs) (he : e ≠ 3) : A.map Addr.block ≠ some g := by
  obtain ⟨olds, h1, h2⟩ := h.own
  obtain ⟨cs, hcs, _⟩ := hO.cells_
  rcases h1.2 with ⟨e1, _⟩ | ⟨g2, cap, cur, e1, _, h3, _⟩
  · cases e1; simp
  · cases e1
    intro q
    simp only [Option.map_some, Option.some.injEq] at q
    subst q
    rw [hcs] at h3
    simp only [Option.some.injEq, Obj.cells.injEq] at h3
    exact he h3.2.1.symm
theorem Ri.kept_ {B n : Nat} {A' : Option Addr} {xs : List Int} {row : Option Nat} (h : Ri w B A' n xs) (hB : B ≤ w.heap.size) (hg : w.grownBy w' row) (hne : 0 < n → ∀ ad, A' = some ad → row ≠ some ad.block) : Ri w' w'.heap.size A' n xs := ⟨h.1, fun hn => by
  obtain ⟨ad, e, hb, hc⟩ := h.2 hn
  refine ⟨ad, e, Nat.lt_of_lt_of_le hb (Nat.le_trans hB hg.size), fun j hj => ?_⟩
  rw [World.cell?_of_block (hg.block (ad.add j).block (by rw [addr_block]; omega) (by rw [addr_block]; exact fun q => hne hn ad e q.symm))]
  exact hc j hj⟩
/-- 'out = append(out, l)'. -/
theorem push_row {ops : Array Oper} {rest : List Oper} {o : Oper} {a : Act} {Q : Exit → Act → World → Prop} (hT : RowT t e) (hgd : o.guard = none) (s x : Operand)
    (ho : o.op = .call { callee := .builtin .append, args := #[s, x], argTypes := #[t, t] })
    (base : Nat) (A : Option Addr) (n c : Nat) (Ls : List (List Int)) (hs : a.eval s = .slice A n c) (hown : Rw e w base A n c Ls)
    (ad : Addr) (c' : Nat) (A' : Option Addr) (m cm : Nat) (L : List Int) (hx : a.eval x = .slice (some ad) 1 c') (hz : w.cell? ad = some (.slice A' m cm)) (hlen : n < 1099511627776) (hbase : base ≤ w.heap.size)
    (hr : Ri w w.heap.size A' m L) (hm : m ≤ cm) (hne : 0 < m → ∀ ad', A' = some ad' → A.map Addr.block ≠ some ad'.block)
    (h : ∀ g cap w', Rw e w' base (some ⟨g, 0, none⟩) (n + 1) cap (Ls ++ [L]) → w.grownBy w' (A.map Addr.block) → wpList Tryz.prog ops Q rest (a.put o.dst (.slice (some ⟨g, 0, none⟩) (n + 1) cap)) w') : wpList Tryz.prog ops Q (o :: rest) a w := by
  obtain ⟨i0, hi, hz0, hz1, hz2⟩ := info_parts hT.info
  obtain ⟨olds, h1, h2⟩ := hown.own
  have hm1 : n + 1 ≤ maxLen := by unfold maxLen; omega
  refine wpList_append_own_at w hgd s x _ ho base _ i0 _ 1 24 hT.under hi hz0 hz1 hz2 rfl (by decide) _ n olds hs h1 ad 1 c' [.slice A' m cm] hx rfl ?_ (by simp [Value.oneCell']) hm1 (by omega) hbase ?_
  · intro j u hj
    match j, hj with
    | 0, hj => simp at hj; subst hj; exact hz
  · intro v' w' hown' hgrow _ hloc
    obtain ⟨g, cap, hv, hg1, hg2⟩ := hown'.form (by omega)
    subst hv
    have hgr : w.grownBy w' (A.map Addr.block) := by cases A <;> exact hgrow
    have hlo : A.map Addr.block = some g ∨ g = w.heap.size := by
      cases A with
      | none => simpa [Value.ownBlock] using hloc
      | some b => simpa [Value.ownBlock, eq_comm] using hloc
    refine h g cap w' ⟨by simp [hown.len], _, hown', fun i M hi => ?_⟩ hgr
    have hol : olds.length = n := by have := h1.1; omega
    have far : ∀ (B' : Option Addr) (k : Nat) (xs : List Int), Ri w w.heap.size B' k xs → (0 < k → ∀ ad', B' = some ad' → A.map Addr.block ≠ some ad'.block) → (0 < k → ∀ ad', B' = some ad' → (some (⟨g, 0, none⟩ : Addr)).map Addr.block ≠ some ad'.block) := fun B' k xs hr' hn' hk ad' e' => by
      obtain ⟨a0, e0, hb0, _⟩ := hr'.2 hk
      rw [e'] at e0
      cases e0
      rcases hlo with hlo | hlo
      · have := hn' hk ad' e'
        rw [hlo] at this
        exact this
      · simp only [Option.map_some, ne_eq, Option.some.injEq]
        show ¬ g = ad'.block
        omega
    by_cases hin : i < n
    · rw [List.getElem?_append_left (by rw [hown.len]; exact hin)] at hi
      obtain ⟨A2, c2, h3, h4, h5, h6⟩ := h2 i M hi
      exact ⟨A2, c2, by rw [List.getElem?_append_left (by omega)]; exact h3, h4, h5.kept_ (Nat.le_refl _) hgr h6, far _ _ _ h5 h6⟩
    · have hrq : i = n := by
        have := (List.getElem?_eq_some_iff.1 hi).1
        rw [List.length_append, hown.len] at this
        simp at this
        omega
      subst hrq
      rw [List.getElem?_append_right (by rw [hown.len]; exact Nat.le_refl _), hown.len, Nat.sub_self] at hi
      simp at hi
      subst hi
      have hml := hr.len
      subst hml
      exact ⟨A', cm, by rw [List.getElem?_append_right (by omega), hol, Nat.sub_self]; rfl, hm, hr.kept_ (Nat.le_refl _) hgr hne, far _ _ _ hr hne⟩
end
end Go.Proofs.YtibmpjhffeinoaaGreat

namespace Go.Proofs.YtibmpjhffeinoaaGreat
open Go.RowKit Go.Shelf

/-- What is reached from a state, as far as q, leads back to it. -/
def clo (v : List Nat) (i q : Nat) : Prop := ∀ k, k < q → (nat v i).testBit k = true → (nat v k).testBit i = true
theorem clo_yes {v : List Nat} {i q : Nat} (h : clo v i q) (hq : (nat v i).testBit q = true → (nat v q).testBit i = true) : clo v i (q + 1) := fun k hk => by
  by_cases e : k = q
  · subst e; exact hq
  · exact h k (by omega)
theorem clo_no {v : List Nat} {i q : Nat} (h : ¬ clo v i q) : ¬ clo v i (q + 1) := fun h' => h fun k hk => h' k (by omega)
open Classical in
/-- The parts, and what they take. -/
noncomputable def rpt (v : List Nat) (n : Nat) : Nat → List (List Int) × Nat
  | 0 => ([], 0)
  | i + 1 => if clo v i n ∧ ¬ (rpt v n i).2.testBit i = true then ((rpt v n i).1 ++ [lst (nat v i) n], (rpt v n i).2 ||| nat v i) else rpt v n i
open Classical in
theorem rpt_yes {v : List Nat} {n i : Nat} (h : clo v i n) (h2 : ¬ (rpt v n i).2.testBit i = true) : rpt v n (i + 1) = ((rpt v n i).1 ++ [lst (nat v i) n], (rpt v n i).2 ||| nat v i) := by
  show (if _ then _ else _) = _
  rw [if_pos ⟨h, h2⟩]
open Classical in
theorem rpt_no {v : List Nat} {n i : Nat} (h : ¬ (clo v i n ∧ ¬ (rpt v n i).2.testBit i = true)) : rpt v n (i + 1) = rpt v n i := by
  show (if _ then _ else _) = _
  rw [if_neg h]
open Classical in
theorem rpt_b {v : List Nat} {n : Nat} (hv : Bits n v) : ∀ i, (rpt v n i).2 < 16
  | 0 => Nat.zero_lt_succ 15
  | i + 1 => by
    show (if _ then _ else _ : List (List Int) × Nat).2 < 16
    split
    · exact or_lt _ (rpt_b hv i) _ (hv.at_ i)
    · exact rpt_b hv i
open Classical in
theorem rpt_len (v : List Nat) (n : Nat) : ∀ i, (rpt v n i).1.length ≤ i
  | 0 => Nat.le_refl _
  | i + 1 => by
    show (if _ then _ else _ : List (List Int) × Nat).1.length ≤ i + 1
    have := rpt_len v n i
    split
    · simp; omega
    · omega
set_option maxRecDepth 100000 in
set_option maxHeartbeats 3200000 in
theorem rPartsOf (AN AP : Option Addr) (n cN np cP : Nat) (S : Int) (Ls : List (List Int)) (w : World) (hmv : Mv w w.heap.size AN n Ls) (hn : n ≤ 4) (hLs : ∀ L ∈ Ls, L.length = n) (N : Nat → Nat → Int) (hN : ∀ i k, N i k = nth (Ls[i]?.getD []) k) :
    Calls Tryz.prog 14 #[.agg #[.int .i64 S, .slice AN n cN, .slice AP np cP]] w fun e w' => ∃ A m c, e = .returned (.slice A m c) ∧ Rw 35 w' w.heap.size A m c (rpt (ld3 N n (n + 1)) n n).1 ∧ Below w.heap.size w w' := by
  have hb1 := (Below.refl w.heap.size w).alloc (Nat.le_refl _) (.cells #[.int .i64 S, .slice AN n cN, .slice AP np cP] 25)
  have hbk := Bk.new w 25 #[.int .i64 S, .slice AN n cN, .slice AP np cP]
  have hs1 : (w.alloc (.cells #[.int .i64 S, .slice AN n cN, .slice AP np cP] 25)).heap.size = w.heap.size + 1 := by simp
  have hmv1 := (hmv.below hb1).more (B' := (w.alloc (.cells #[.int .i64 S, .slice AN n cN, .slice AP np cP] 25)).heap.size) (by omega)
  generalize hW : w.alloc (.cells #[.int .i64 S, .slice AN n cN, .slice AP np cP] 25) = W at *
  have c0 : W.cell? ⟨w.heap.size, 0, none⟩ = some (.int .i64 S) := hbk.cell 0
  have c1 : W.cell? ⟨w.heap.size, 1, none⟩ = some (.slice AN n cN) := hbk.cell 1
  have c2 : W.cell? ⟨w.heap.size, 2, none⟩ = some (.slice AP np cP) := hbk.cell 2
  have hRL := Lib.hid (rLeads AN AP n cN np cP S Ls W hmv1 hn hLs N hN)
  clear hbk hmv hmv1 hLs hN
  have hsw : w.heap.size ≤ W.heap.size := by omega
  clear hs1
  obtain ⟨v, hv⟩ : ∃ v, Hid (ld3 N n (n + 1) = v) := ⟨_, Lib.hid rfl⟩
  rw [hv.out]
  rw [hv.out] at hRL
  go_enter Tryz.func14, Tryz.ntmps14
  go_wp2_with fail
  refine hRL.out.mono ?_
  rintro e w1 ⟨g, rfl, hO, hBt, hb2⟩
  have hb3 := hb1.trans (hb2.mono hsw)
  have hO' : Oj w1 w.heap.size (some ⟨g, 0, none⟩) n n (natI v) := hO.base hsw
  have hB := Lib.hid hBt
  clear hRL hO hBt hb2 hb1 c0 c1 c2
  have h0 : Hid (rpt v n 0 = ([], 0)) := Lib.hid rfl
  go_wp2
  go_loopw [5, 6, 7, 8, 9] (fun t5 t6 t7 _ _ wr => ∃ (A : Option Addr) (m c i tk : Nat), i ≤ n ∧ m ≤ i ∧ t5 = .slice A m c ∧ t6 = .int .i64 (tk : Int) ∧ t7 = .int .i64 (i : Int) ∧ Hid ((rpt v n i).2 = tk) ∧ Rw 35 wr w.heap.size A m c (rpt v n i).1 ∧ Oj wr w.heap.size (some ⟨g, 0, none⟩) n n (natI v) ∧ Below w.heap.size w wr) (fun _ _ t7 _ _ _ => n - (intOf t7).toNat)
  case atStart => exact ⟨none, 0, 0, 0, 0, Nat.zero_le _, Nat.le_refl _, rfl, rfl, rfl, Lib.hid (by rw [h0.out]), by rw [h0.out]; exact Rw.nil_ _ _ _, hO', hb3⟩
  case round =>
    clear h0 hO' hb3
    obtain ⟨A, m, c, i, tk, hi, hmi, rfl, rfl, rfl, HT, hR, hO, hb⟩ := hrel
    have hbs := hb.size
    by_cases hin : i < n
    · have hi4 : i < 4 := by omega
      have hOi := hO.cell hin
      rw [natI_nth] at hOi
      have hbi := hB.out.at_ i
      go_wp2
      go_loopw [8, 9] (fun t8 t9 wr' => ∃ (b : Bool) (k : Nat), k ≤ n ∧ t8 = .bool b ∧ t9 = .int .i64 (k : Int) ∧ Hid (b = true ↔ clo v i k) ∧ wr' = wr) (fun _ t9 _ => n - (intOf t9).toNat)
      case atStart => exact ⟨true, 0, Nat.zero_le _, rfl, rfl, Lib.hid ⟨fun _ k hk => absurd hk (Nat.not_lt_zero _), fun _ => rfl⟩, rfl⟩
      case round =>
        obtain ⟨b, k, hk, rfl, rfl, HC, rfl⟩ := hrel
        by_cases hkn : k < n
        · have hk4 : k < 4 := by omega
          have hOk := hO.cell hkn
          rw [natI_nth] at hOk
          have hbk := hB.out.at_ k
          by_cases ht : (nat v i).testBit k = true
          · have h1 := bit_yes hbi hk4 ht
            by_cases hs : (nat v k).testBit i = true
            · have h2 := bit_yes hbk hi4 hs
              have HC2 : Hid (b = true ↔ clo v i (k + 1)) := Lib.hid (HC.out.trans ⟨fun h => clo_yes h fun _ => hs, fun h => fun q hq => h q (by omega)⟩)
              clear ht hs
              go_wp2
              exact ⟨⟨b, k + 1, by omega, rfl, by go_num, HC2, trivial⟩, by simp [intOf]; omega⟩
            · have h2 := bit_no hbk hi4 hs
              have HC2 : Hid (false = true ↔ clo v i (k + 1)) := Lib.hid ⟨fun h => (by cases h), fun h => absurd (h k (by omega) ht) hs⟩
              clear ht hs
              go_wp2
              exact ⟨⟨false, k + 1, by omega, rfl, by go_num, HC2, trivial⟩, by simp [intOf]; omega⟩
          · have h1 := bit_no hbi hk4 ht
            have HC2 : Hid (b = true ↔ clo v i (k + 1)) := Lib.hid (HC.out.trans ⟨fun h => clo_yes h fun h' => absurd h' ht, fun h => fun q hq => h q (by omega)⟩)
            clear ht
            go_wp2
            exact ⟨⟨b, k + 1, by omega, rfl, by go_num, HC2, trivial⟩, by simp [intOf]; omega⟩
        · obtain rfl : n = k := by omega
          have hbt : tk < 16 := by rw [← HT.out]; exact rpt_b hB.out i
          by_cases hb' : b = true
          · subst hb'
            have HCl : Hid (clo v i n) := Lib.hid (HC.out.1 rfl)
            by_cases hs : tk.testBit i = true
            · have h1 := bit_yes hbt hi4 hs
              have HN : Hid (rpt v n (i + 1) = rpt v n i) := Lib.hid (rpt_no fun h => h.2 (by rw [HT.out]; exact hs))
              clear hs
              rw [← HN.out] at hR HT
              go_wp2
              exact ⟨⟨A, m, c, i + 1, tk, by omega, by omega, rfl, rfl, by go_num, HT, hR, hO, hb⟩, by simp [intOf]; omega⟩
            · have h1 := bit_no hbt hi4 hs
              have HY : Hid (rpt v n (i + 1) = ((rpt v n i).1 ++ [lst (nat v i) n], tk ||| nat v i)) := Lib.hid (by rw [← HT.out]; exact rpt_yes HCl.out (by rw [HT.out]; exact hs))
              clear hs HC HCl
              have hor := bit_or tk hbt _ hbi
              go_wp2_with fail
              refine (rListed (nat v i) n wr hbi hn).mono ?_
              rintro e w2 ⟨A2, m2, c2, rfl, hO2, hb2⟩
              have hb4 := hb.trans (hb2.mono hbs)
              have hR2 := hR.below hb2
              have hO3 := hO.below hb2
              have hl2 := hO2.len
              have hbs2 := hb4.size
              have hws := hb2.size
              clear hor
              go_wp2_with (at_builtin; refine push_row rowT_int rfl (.tmp 50) (.tmp 57) rfl w.heap.size A m c (rpt v n i).1 rfl (hR2.alloc _) ⟨w2.heap.size, 0, none⟩ 1 A2 m2 c2 (lst (nat v i) n) rfl (cell_new1 _ _ _) (by omega) (by simp only [World.size_alloc]; omega) (hO2.alloc _).ri hO2.cap (fun _ ad' e' h' => (by have q1 := hO2.lt ad'.block (by rw [e']; rfl); have q2 := hR.lt ad'.block h'; omega)) ?_; intro g1 cap1 w3 hR3 hg3; have hO4 := (hO3.alloc (.cells #[.slice A2 m2 c2] 35)).kept hg3 (.inr (fun q => (hR2.ne_oj hO3 (by decide)) q.symm)); have hb5 := (hb4.alloc hbs2 (.cells #[.slice A2 m2 c2] 35)).grown hg3 (by simp only [World.size_alloc]; omega) (fun k hk => (hR2.lt k hk).1); clear hR2 hO3 hb4; have hor := bit_or tk hbt _ hbi; have hOi := hO4.cell hin; rw [natI_nth] at hOi)
              have hR4 : Rw 35 w3 w.heap.size (some ⟨g1, 0, none⟩) (m + 1) cap1 (rpt v n (i + 1)).1 := by rw [HY.out]; exact hR3
              have HT4 : Hid ((rpt v n (i + 1)).2 = tk ||| nat v i) := Lib.hid (by rw [HY.out])
              exact ⟨⟨some ⟨g1, 0, none⟩, m + 1, cap1, i + 1, _, by omega, by omega, rfl, rfl, by go_num, HT4, hR4, hO4, hb5⟩, by simp [intOf]; omega⟩
          · have HN : Hid (rpt v n (i + 1) = rpt v n i) := Lib.hid (rpt_no fun h => hb' (HC.out.2 h.1))
            rw [← HN.out] at hR HT
            have hb2 : b = false := by simpa using hb'
            subst hb2
            clear hb' HC
            go_wp2
            exact ⟨⟨A, m, c, i + 1, tk, by omega, by omega, rfl, rfl, by go_num, HT, hR, hO, hb⟩, by simp [intOf]; omega⟩
    · obtain rfl : n = i := by omega
      go_wp2
      go_ret
      exact ⟨_, _, _, rfl, hR, hb⟩
end Go.Proofs.YtibmpjhffeinoaaGreat
