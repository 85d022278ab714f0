/-
  'ordered' (pennyfalllaw04): all orders of what is left, behind what is begun.
-/
import Derived.Test.YtkeiajncmhkdmaaPush
import Derived.Test.YtkeiajncmhkdmaaOrd
import Derived.Test.YtkeiajncmhkdmaaTot1
import Derived.Test.YtkeiajncmhkdmaaLaw1
namespace Go.Proofs.Ytkeiajncmhkdmaa
open Go.RowKit Go.Shelf

def GoodO (b : Nat) (l : List Int) : Prop := l.Nodup ∧ ∀ x ∈ l, 0 ≤ x ∧ x < (b : Int)
theorem goodO_ways {b : Nat} {l : List Int} (h1 : 1 ≤ b) (h8 : b ≤ 8) (h : GoodO b l) : waysS (b : Int) l = (waysIn l l.length, 0) := by
  unfold waysS
  rw [if_neg (by omega), if_neg, if_pos]
  · rw [freshB_iff]
    intro i hi hm
    have hn := h.1
    have hg : l[i]? = some l[i] := List.getElem?_eq_getElem hi
    rw [nth, hg] at hm
    obtain ⟨j, hj, he⟩ := List.getElem_of_mem hm
    rw [List.getElem_take] at he
    rw [List.length_take] at hj
    exact absurd ((List.getElem_inj hn).1 he) (by omega)
  · simp only [List.any_eq_true, not_exists, not_and]
    intro x hx
    have := h.2 x hx
    simp only [outP, Bool.or_eq_true, decide_eq_true_eq]
    omega
theorem goodO_next {b k : Nat} {bg lf : List Int} {x : Int} (hk : lf[k]? = some x) (h : GoodO b (bg ++ lf)) : GoodO b (bg ++ [x] ++ (lf.take k ++ lf.drop (k + 1))) := by
  have hl := (List.getElem?_eq_some_iff.1 hk).1
  have e : lf = lf.take k ++ x :: lf.drop (k + 1) := by
    have h1 : lf.drop k = x :: lf.drop (k + 1) := by
      rw [List.drop_eq_getElem_cons hl]
      obtain ⟨_, h2⟩ := List.getElem?_eq_some_iff.1 hk
      rw [h2]
    rw [← h1, List.take_append_drop]
  have hp : (bg ++ [x] ++ (lf.take k ++ lf.drop (k + 1))).Perm (bg ++ lf) := by
    conv => rhs; rw [e]
    rw [List.append_assoc]
    exact List.Perm.append_left _ (List.perm_middle (a := x) (l₁ := lf.take k) (l₂ := lf.drop (k + 1))).symm
  exact ⟨hp.nodup_iff.2 h.1, fun y hy => h.2 y (hp.mem_iff.1 hy)⟩
theorem ordTo_bd {b n : Nat} (ih : ∀ bg lf : List Int, lf.length = n → bg.length + n ≤ 5 → GoodO b (bg ++ lf) → 0 ≤ ordIn n bg lf ∧ ordIn n bg lf ≤ ((5 ^ n * 8 ^ (bg.length + n) : Nat) : Int))
    {bg lf : List Int} (hl : lf.length = n + 1) (h5 : bg.length + (n + 1) ≤ 5) (hg : GoodO b (bg ++ lf)) : ∀ k : Nat, k ≤ n + 1 → 0 ≤ ordTo n bg lf k ∧ ordTo n bg lf k ≤ ((k * (5 ^ n * 8 ^ (bg.length + (n + 1))) : Nat) : Int) := by
  intro k
  induction k with
  | zero => intro _; exact ⟨by simp [ordTo], by simp [ordTo]⟩
  | succ k ihk =>
    intro hk
    have h1 := ihk (by omega)
    have hx : lf[k]? = some (nth lf k) := by rw [nth, List.getElem?_eq_getElem (by omega)]; rfl
    have h2 := ih (bg ++ [nth lf k]) (lf.take k ++ lf.drop (k + 1)) (by simp; omega) (by simp; omega) (goodO_next hx hg)
    rw [show (bg ++ [nth lf k]).length + n = bg.length + (n + 1) by simp; omega] at h2
    rw [ordTo_succ, Nat.succ_mul, Int.natCast_add]
    omega
theorem ord_bd {b : Nat} (h8 : b ≤ 8) : ∀ (n : Nat) (bg lf : List Int), lf.length = n → bg.length + n ≤ 5 → GoodO b (bg ++ lf) → 0 ≤ ordIn n bg lf ∧ ordIn n bg lf ≤ ((5 ^ n * 8 ^ (bg.length + n) : Nat) : Int)
  | 0, bg, lf, _, _, hg => by
    have h := waysIn_bd h8 (xs := bg) (fun x hx => hg.2 x (by simp [hx])) bg.length (Nat.le_refl _)
    have e : ((5 ^ 0 * 8 ^ (bg.length + 0) : Nat) : Int) = 8 ^ bg.length := by simp
    rw [e]
    unfold ordIn
    omega
  | n + 1, bg, lf, hl, h5, hg => by
    have h := ordTo_bd (ord_bd h8 n) hl h5 hg (n + 1) (Nat.le_refl _)
    have e : ordTo n bg lf (n + 1) = ordIn (n + 1) bg lf := by
      have h := ordTo_done n bg lf
      rwa [hl] at h
    rw [e] at h
    refine ⟨h.1, Int.le_trans h.2 (Int.ofNat_le.2 ?_)⟩
    rw [Nat.pow_succ, Nat.mul_comm (5 ^ n) 5, Nat.mul_assoc]
    exact Nat.mul_le_mul_right _ (by omega)
theorem ord_small {b n : Nat} (h8 : b ≤ 8) {bg lf : List Int} (hl : lf.length = n + 1) (h5 : bg.length + (n + 1) ≤ 5) (hg : GoodO b (bg ++ lf)) {k : Nat} (hk : k ≤ n + 1) : 0 ≤ ordTo n bg lf k ∧ ordTo n bg lf k ≤ 102400000 := by
  have h := ordTo_bd (ord_bd h8 n) hl h5 hg k hk
  have h1 : 5 ^ n ≤ 5 ^ 4 := Nat.pow_le_pow_right (by omega) (by omega)
  have h2 : 8 ^ (bg.length + (n + 1)) ≤ 8 ^ 5 := Nat.pow_le_pow_right (by omega) h5
  have h3 : k * (5 ^ n * 8 ^ (bg.length + (n + 1))) ≤ 5 * (5 ^ 4 * 8 ^ 5) := Nat.mul_le_mul (by omega) (Nat.mul_le_mul h1 h2)
  refine ⟨h.1, Int.le_trans h.2 ?_⟩
  omega
theorem Ri.dropped {w : World} {B n : Nat} {ad : Addr} {xs : List Int} (h : Ri w B (some ad) n xs) {k : Nat} (hk : k ≤ n) : Ri w B (some (ad.add k)) (n - k) (xs.drop k) := by
  have hl := h.len
  refine ⟨by rw [ints_length, List.length_drop, hl]; omega, fun h0 => ?_⟩
  obtain ⟨ad', hA, hb, hc⟩ := h.2 (by omega)
  cases hA
  refine ⟨_, rfl, by rw [addr_block]; exact hb, fun j hj => ?_⟩
  have hj' : k + j < (ints xs).length := by rw [ints_length, List.length_drop] at hj; rw [ints_length]; omega
  rw [addr_add, hc (k + j) hj']
  congr 1
  simp [ints]

theorem litB {w w' : World} {x : Int} {o : Obj} (hg : ((w.alloc o).alloc (.cells #[.int .i64 x] 3)).grownBy w' (some w.heap.size)) : Ri w' w'.heap.size (some ⟨w.heap.size + 1, 0, none⟩) 1 [x] := by
  have h := (Oi.lit1 (w.alloc o) x).kept hg (.inr (by simp))
  rw [World.size_alloc] at h
  exact h.ri
theorem litC {w w' : World} {x : Int} {o : Obj} (hg : ((w.alloc (.cells #[.int .i64 x] 3)).alloc o).grownBy w' (some (w.heap.size + 1))) : Ri w' w'.heap.size (some ⟨w.heap.size, 0, none⟩) 1 [x] :=
  (((Oi.lit1 w x).alloc o).kept hg (.inr (by simp))).ri
theorem lit0C (w : World) (x : Int) : Oi ((w.alloc (.cells #[.int .i64 x] 3)).alloc (.cells #[] 3)) w.heap.size (some ⟨w.heap.size + 1, 0, none⟩) 0 0 [] := by
  have h := Oi.lit0 (w.alloc (.cells #[.int .i64 x] 3))
  rw [World.size_alloc] at h
  exact own_base h (by omega)
theorem ret_nb {a b : Int} {c : Bool} (h : a = b) : Ending.returned (.tuple #[.int .i64 a, .bool c]) = .returned (.tuple #[.int .i64 b, .bool c]) := by rw [h]

set_option maxRecDepth 100000 in
set_option maxHeartbeats 16000000 in
theorem aOrdered (b : Nat) (hb1 : 1 ≤ b) (hb8 : b ≤ 8) : ∀ (n : Nat) (A1 : Option Addr) (l c1 : Nat) (bg : List Int) (A2 : Option Addr) (c2 : Nat) (lf : List Int) (w : World), Ri w w.heap.size A1 l bg → Ri w w.heap.size A2 n lf → l ≤ c1 → n ≤ c2 → l + n ≤ 5 → Hid (GoodO b (bg ++ lf)) →
    Calls Try.prog 47 #[.int .i64 (b : Int), .slice A1 l c1, .slice A2 n c2] w fun e w' => e = .returned (.tuple #[.int .i64 (ordIn n bg lf), .bool true]) ∧ Below w.heap.size w w' := by
  intro n
  induction n with
  | zero =>
    intro A1 l c1 bg A2 c2 lf w hx hy hl hn h5 HG
    have HL := Lib.hid hx.len
    have HLF : Hid (lf = []) := Lib.hid (List.eq_nil_of_length_eq_zero hy.len)
    obtain ⟨v, HVV⟩ : ∃ v, Hid (ordIn 0 bg lf = v) := ⟨_, Lib.hid rfl⟩
    have HW : Hid (waysS (b : Int) bg = (v, 0)) := Lib.hid (by
      rw [← HVV.out, goodO_ways hb1 hb8 (l := bg) (by have := HG.out; rw [HLF.out, List.append_nil] at this; exact this)]
      rfl)
    have hv1 : 1 ≤ v := by
      rw [← HVV.out]
      exact (waysIn_bd hb8 (xs := bg) (fun x hx => HG.out.2 x (by simp [hx])) bg.length (Nat.le_refl _)).1
    have hv2 : v ≤ 50000000 := by
      rw [← HVV.out]
      have h := (waysIn_bd hb8 (xs := bg) (fun x hx => HG.out.2 x (by simp [hx])) bg.length (Nat.le_refl _)).2
      have h2 := pow8_le (k := bg.length) (by rw [HL.out]; omega)
      unfold ordIn
      omega
    rw [HVV.out]
    have hd1 : decide (1 ≤ v) = true := decide_eq_true hv1
    have hd2 : decide (v ≤ 50000000) = true := decide_eq_true hv2
    go_enter Try.func47, Try.ntmps47
    go_wp2_with fail
    refine (lWaysT (b : Int) A1 l c1 bg w hx (by omega) hl v 0 HW).mono ?_
    rintro e w1 ⟨rfl, hb⟩
    go_wp2
    go_ret2
    exact ⟨rfl, hb⟩
  | succ n ih =>
    intro A1 l c1 bg A2 c2 lf w hx hy hl hn h5 HG
    have IH := Lib.hid ih
    clear ih
    have HL := Lib.hid hx.len
    have HLF := Lib.hid hy.len
    rw [show ordIn (n + 1) bg lf = ordTo n bg lf (n + 1) by rw [← HLF.out, ordTo_done, HLF.out]]
    have hn10 : ((n : Int) + 1 == 0) = false := by simp; omega
    go_enter Try.func47, Try.ntmps47
    go_wp2
    go_loopw [10, 11] (fun s i wr => ∃ (k : Nat) (sv : Int), k ≤ n + 1 ∧ i = .int .i64 k ∧ s = .int .i64 sv ∧ Hid (ordTo n bg lf k = sv) ∧ Below w.heap.size w wr) (fun _ i _ => n + 1 - (intOf i).toNat)
    case atStart => exact ⟨0, 0, by omega, rfl, rfl, Lib.hid rfl, Below.refl _ _⟩
    case round =>
      obtain ⟨k, sv, hk, rfl, rfl, HSV, hb⟩ := hrel
      have hsz := hb.size
      by_cases hlt : k < n + 1
      · obtain ⟨ad, x, hA, hadb, hc, hxk, _⟩ := hy.at_ hlt
        subst hA
        have hx2 := hx.next hb (Nat.le_refl _) hsz
        have hy2 := hy.next hb (Nat.le_refl _) hsz
        by_cases hcap : c2 = k + 1
        · obtain rfl : n = k := by omega
          subst hcap
          have hyA := hy2.take (k := n) (by omega)
          have hyB : Ri wr wr.heap.size (some ad) 0 (lf.drop (n + 1)) := by
            rw [List.drop_eq_nil_of_le (by rw [HLF.out]; exact Nat.le_refl _)]
            exact hy2.take (k := 0) (by omega)
          have i0 : (0 : Int) ≤ (n : Int) := by omega
          have i4 : IntKind.i64.wrap ((n : Int) + 1) = (n : Int) + 1 := IntWalk.i64_in _ (by omega)
          have i5 : (0 : Int) ≤ (n : Int) + 1 := by omega
          have i6 : (n : Int) ≤ (n : Int) + 1 := by omega
          go_wp2
          go_region_held3 (fun w' => Below wr.heap.size wr w') (first | exact (Below.refl _ _) | exact (Below.refl _ _).drew | exact ((Below.refl _ _).drew.alloc (Nat.le_refl _) _) | exact hb8b | exact hb8a)
            (first
              | ((refine step_push_ints (by rfl) (.tmp 41) (.tmp 44) (by rfl) wr.heap.size (some ⟨wr.heap.size, 0, none⟩) 0 0 [] (by rfl) (Oi.lit0 wr.drew) _ (some ad) n (n + 1) (lf.take n) (by rfl) (hyA.alloc (Nat.le_refl _) _) (by omega) (by omega) (by simp) ?_; intro A8 c8 w8 ho8 hg8; simp only [Nat.zero_add, List.nil_append] at ho8 ⊢; have hb8a : Below wr.heap.size wr w8 := (Oi.lit0 wr.drew).grew ((Below.refl wr.heap.size wr).drew.alloc (Nat.le_refl _) _) (by simp) (Nat.le_refl _) hg8))
              | ((refine step_push_ints (by rfl) (.tmp 45) (.tmp 49) (by rfl) wr.heap.size A8 n c8 (lf.take n) (by rfl) ho8 _ (some ad) (0) (0) (lf.drop (n + 1)) (by rfl) (hyB.below hb8a) (by omega) (by omega) hb8a.size ?_; intro A9 c9 w9 ho9 hg9; have hb8b : Below wr.heap.size wr w9 := ho8.grew hb8a hb8a.size (Nat.le_refl _) hg9)))
          rw [show n + (0) = n by omega] at ho9
          have hb9 : Below w.heap.size w w9 := hb.trans (hb8b.mono hsz)
          have hsz9 := hb9.size
          have hc9 : w9.cell? (ad.add n) = some (.int .i64 x) := (hb9.cell (by rw [addr_block]; exact hadb)).trans hc
          have hx9 := hx2.next hb8b (Nat.le_refl _) hb8b.size
          have had9 : ad.block < w9.heap.size := Nat.lt_of_lt_of_le hadb hsz9
          obtain ⟨LF, HLF2⟩ : ∃ L, Hid (lf.take n ++ lf.drop (n + 1) = L) := ⟨_, Lib.hid rfl⟩
          rw [HLF2.out] at ho9
          have HG2 : Hid (GoodO b (bg ++ [x] ++ LF)) := Lib.hid (by rw [← HLF2.out]; exact goodO_next hxk.out HG.out)
          obtain ⟨v, HV⟩ : ∃ v, Hid (ordIn n (bg ++ [x]) LF = v) := ⟨_, Lib.hid rfl⟩
          have HSV2 : Hid (ordTo n bg lf (n + 1) = sv + v) := Lib.hid (by rw [ordTo_succ, show nth lf n = x by (unfold nth; rw [hxk.out]; rfl), HLF2.out, HSV.out, HV.out])
          have hsb := ord_small (b := b) hb8 HLF.out (by rw [HL.out]; exact h5) HG.out (k := n + 1) (by omega)
          rw [HSV2.out] at hsb
          obtain ⟨hsb1, hsb2⟩ := hsb
          have hws : IntKind.i64.wrap (sv + v) = sv + v := IntWalk.i64_in _ (by omega)
          have hl11 : l + 1 + n ≤ 5 := by omega
          clear hsb1 hsb2
          have hS : ∀ w', Below w9.heap.size w9 w' → w'.cell? (ad.add n) = some (.int .i64 x) ∧ Below w9.heap.size w9 w' := fun w' h => ⟨(h.cell (by rw [addr_block]; exact had9)).trans hc9, h⟩
          have h_r := ho9.ri
          have k_r := ho9.cap
          clear ho9 hb8b hb8a ho8 hg8 hg9 hyA hyB hc9
          have oB : Oi ((w9.drew.alloc (.cells #[] 3)).alloc (.cells #[.int .i64 x] 3)) w9.heap.size (some ⟨w9.heap.size, 0, none⟩) 0 0 [] := (Oi.lit0 w9.drew).alloc _
          have oC : Oi ((w9.drew.alloc (.cells #[.int .i64 x] 3)).alloc (.cells #[] 3)) w9.heap.size (some ⟨w9.heap.size + 1, 0, none⟩) 0 0 [] := lit0C w9.drew x
          have hzB : w9.heap.size ≤ ((w9.drew.alloc (.cells #[] 3)).alloc (.cells #[.int .i64 x] 3)).heap.size := by simp only [World.size_alloc]; show w9.heap.size ≤ w9.heap.size + 1 + 1; omega
          have hzC : w9.heap.size ≤ ((w9.drew.alloc (.cells #[.int .i64 x] 3)).alloc (.cells #[] 3)).heap.size := by simp only [World.size_alloc]; show w9.heap.size ≤ w9.heap.size + 1 + 1; omega
          have hb1B : w9.heap.size ≤ (w9.drew.alloc (.cells #[] 3)).heap.size := by simp only [World.size_alloc]; show w9.heap.size ≤ w9.heap.size + 1; omega
          have hb1C : w9.heap.size ≤ (w9.drew.alloc (.cells #[.int .i64 x] 3)).heap.size := by simp only [World.size_alloc]; show w9.heap.size ≤ w9.heap.size + 1; omega
          have hbB : Below w9.heap.size w9 ((w9.drew.alloc (.cells #[] 3)).alloc (.cells #[.int .i64 x] 3)) := ((Below.refl _ w9).drew.alloc (Nat.le_refl _) _).alloc hb1B _
          have hbC : Below w9.heap.size w9 ((w9.drew.alloc (.cells #[.int .i64 x] 3)).alloc (.cells #[] 3)) := ((Below.refl _ w9).drew.alloc (Nat.le_refl _) _).alloc hb1C _
          have hxB : Ri ((w9.drew.alloc (.cells #[] 3)).alloc (.cells #[.int .i64 x] 3)) w9.heap.size A1 l bg := hx9.below hbB
          have hxC : Ri ((w9.drew.alloc (.cells #[.int .i64 x] 3)).alloc (.cells #[] 3)) w9.heap.size A1 l bg := hx9.below hbC
          go_wp2
          go_region_held3 (fun w' => w'.cell? (ad.add n) = some (.int .i64 x) ∧ Below w9.heap.size w9 w') (first | exact hS _ (Below.refl _ _) | exact hS _ (Below.refl _ _).drew | exact hS _ ((Below.refl _ _).drew.alloc (Nat.le_refl _) _) | exact hS _ ((Below.refl _ _).alloc (Nat.le_refl _) _) | exact hS _ hbB | exact hS _ hbC | exact hS _ hb12 | exact hS _ hb11 | exact hS _ (hb10.alloc hb10.size _) | exact hS _ hb10)
            (first
              | ((refine step_push_ints (by rfl) (.tmp 53) (.tmp 54) (by rfl) w9.heap.size (some ⟨w9.heap.size, 0, none⟩) 0 0 [] (by rfl) (Oi.lit0 w9.drew) _ A1 l c1 bg (by rfl) (hx9.alloc (Nat.le_refl _) (.cells #[] 3)) (by omega) (by omega) (by first | (simp; done) | (simp only [World.size_alloc]; omega) | (simp; omega)) ?_; intro A10 c10 w10 ho10 hg10; simp only [Nat.zero_add, List.nil_append] at ho10 ⊢; have hb10 : Below w9.heap.size w9 w10 := (Oi.lit0 w9.drew).grew ((Below.refl w9.heap.size w9).drew.alloc (Nat.le_refl _) (.cells #[] 3)) (by first | (simp; done) | (simp only [World.size_alloc]; omega) | (simp; omega)) (Nat.le_refl _) hg10))
              | ((refine step_push_ints (by rfl) (.tmp 53) (.tmp 54) (by rfl) w9.heap.size (some ⟨w9.heap.size, 0, none⟩) 0 0 [] (by rfl) oB _ A1 l c1 bg (by rfl) hxB (by omega) (by omega) hzB ?_; intro A10 c10 w10 ho10 hg10; simp only [Nat.zero_add, List.nil_append] at ho10 ⊢; have hb10 : Below w9.heap.size w9 w10 := oB.grew hbB hzB (Nat.le_refl _) hg10; have hq10 : Ri w10 w10.heap.size (some ⟨w9.heap.size + 1, 0, none⟩) 1 [x] := litB (w := w9.drew) hg10))
              | ((refine step_push_ints (by rfl) (.tmp 53) (.tmp 54) (by rfl) w9.heap.size (some ⟨w9.heap.size + 1, 0, none⟩) 0 0 [] (by rfl) oC _ A1 l c1 bg (by rfl) hxC (by omega) (by omega) hzC ?_; intro A10 c10 w10 ho10 hg10; simp only [Nat.zero_add, List.nil_append] at ho10 ⊢; have hb10 : Below w9.heap.size w9 w10 := oC.grew hbC hzC (Nat.le_refl _) hg10; have hq10 : Ri w10 w10.heap.size (some ⟨w9.heap.size, 0, none⟩) 1 [x] := litC (w := w9.drew) hg10))
              | ((refine step_push_ints (by rfl) (.tmp 55) (.tmp 60) (by rfl) w9.heap.size A10 l c10 bg (by rfl) (ho10.alloc (.cells #[.int .i64 x] 3)) _ (some ⟨w10.heap.size, 0, none⟩) 1 1 [x] (by rfl) (Oi.lit1 w10 x).ri (by omega) (by omega) (by simp only [World.size_alloc]; have := hb10.size; omega) ?_; intro A11 c11 w11 ho11 hg11; have hb11 : Below w9.heap.size w9 w11 := (ho10.alloc (.cells #[.int .i64 x] 3)).grew (hb10.alloc hb10.size (.cells #[.int .i64 x] 3)) (by simp only [World.size_alloc]; have := hb10.size; omega) (Nat.le_refl _) hg11))
              | ((refine step_push_ints (by rfl) (.tmp 55) (.tmp 60) (by rfl) w9.heap.size A10 l c10 bg (by rfl) ho10 _ (some ⟨w9.heap.size + 1, 0, none⟩) 1 1 [x] (by rfl) hq10 (by omega) (by omega) hb10.size ?_; intro A11 c11 w11 ho11 hg11; have hb11 : Below w9.heap.size w9 w11 := ho10.grew hb10 hb10.size (Nat.le_refl _) hg11))
              | ((refine step_push_ints (by rfl) (.tmp 55) (.tmp 60) (by rfl) w9.heap.size A10 l c10 bg (by rfl) ho10 _ (some ⟨w9.heap.size, 0, none⟩) 1 1 [x] (by rfl) hq10 (by omega) (by omega) hb10.size ?_; intro A11 c11 w11 ho11 hg11; have hb11 : Below w9.heap.size w9 w11 := ho10.grew hb10 hb10.size (Nat.le_refl _) hg11))
              | ((go_at_call 47; refine (IH.out A11 (l + 1) c11 (bg ++ [x]) A9 c9 LF w11 ho11.ri (h_r.next hb11 (Nat.le_refl _) hb11.size) ho11.cap k_r hl11 HG2).mono ?_; rintro e w12 ⟨rfl, hb12a⟩; have hb12 : Below w9.heap.size w9 w12 := hb11.trans (hb12a.mono hb11.size); rw [HV.out])))
          all_goals
            have hb13 : Below w.heap.size w w12 := hb9.trans (hb12.mono hsz9)
            clear oB oC hbB hbC hxB hxC hzB hzC hb1B hb1C hS hb12a hb12 hb11 hb10 ho11 ho10 hg10 hg11
            go_wp2
            go_roundw
            case rel => exact ⟨n + 1, sv + v, by omega, by go_num, rfl, HSV2, hb13⟩
            case measure => (try simp [intOf]) <;> (try omega)
        · have hkc : k ≤ c2 := by omega
          have hyA := hy2.take (k := k) (by omega)
          have hyB : Ri wr wr.heap.size (some (ad.add (k + 1))) (n - k) (lf.drop (k + 1)) := by
            rw [show n - k = n + 1 - (k + 1) by omega]
            exact hy2.dropped (by omega)
          have i0 : (0 : Int) ≤ (k : Int) := by omega
          have i1 : (k : Int) ≤ (c2 : Int) := by omega
          have i2 : (k : Int) + 1 ≤ (n : Int) + 1 := by omega
          have i3 : (n : Int) + 1 ≤ (c2 : Int) := by omega
          have i4 : IntKind.i64.wrap ((k : Int) + 1) = (k : Int) + 1 := IntWalk.i64_in _ (by omega)
          have i5 : (0 : Int) ≤ (k : Int) + 1 := by omega
          go_wp2
          go_region_held3 (fun w' => Below wr.heap.size wr w') (first | exact (Below.refl _ _) | exact (Below.refl _ _).drew | exact ((Below.refl _ _).drew.alloc (Nat.le_refl _) _) | exact hb8b | exact hb8a)
            (first
              | ((refine step_push_ints (by rfl) (.tmp 41) (.tmp 44) (by rfl) wr.heap.size (some ⟨wr.heap.size, 0, none⟩) 0 0 [] (by rfl) (Oi.lit0 wr.drew) _ (some ad) k (c2) (lf.take k) (by rfl) (hyA.alloc (Nat.le_refl _) _) (by omega) (by omega) (by simp) ?_; intro A8 c8 w8 ho8 hg8; simp only [Nat.zero_add, List.nil_append] at ho8 ⊢; have hb8a : Below wr.heap.size wr w8 := (Oi.lit0 wr.drew).grew ((Below.refl wr.heap.size wr).drew.alloc (Nat.le_refl _) _) (by simp) (Nat.le_refl _) hg8))
              | ((refine step_push_ints (by rfl) (.tmp 45) (.tmp 49) (by rfl) wr.heap.size A8 k c8 (lf.take k) (by rfl) ho8 _ (some (ad.add (k + 1))) (n - k) (c2 - (k + 1)) (lf.drop (k + 1)) (by rfl) (hyB.below hb8a) (by omega) (by omega) hb8a.size ?_; intro A9 c9 w9 ho9 hg9; have hb8b : Below wr.heap.size wr w9 := ho8.grew hb8a hb8a.size (Nat.le_refl _) hg9)))
          rw [show k + (n - k) = n by omega] at ho9 ⊢
          have hb9 : Below w.heap.size w w9 := hb.trans (hb8b.mono hsz)
          have hsz9 := hb9.size
          have hc9 : w9.cell? (ad.add k) = some (.int .i64 x) := (hb9.cell (by rw [addr_block]; exact hadb)).trans hc
          have hx9 := hx2.next hb8b (Nat.le_refl _) hb8b.size
          have had9 : ad.block < w9.heap.size := Nat.lt_of_lt_of_le hadb hsz9
          obtain ⟨LF, HLF2⟩ : ∃ L, Hid (lf.take k ++ lf.drop (k + 1) = L) := ⟨_, Lib.hid rfl⟩
          rw [HLF2.out] at ho9
          have HG2 : Hid (GoodO b (bg ++ [x] ++ LF)) := Lib.hid (by rw [← HLF2.out]; exact goodO_next hxk.out HG.out)
          obtain ⟨v, HV⟩ : ∃ v, Hid (ordIn n (bg ++ [x]) LF = v) := ⟨_, Lib.hid rfl⟩
          have HSV2 : Hid (ordTo n bg lf (k + 1) = sv + v) := Lib.hid (by rw [ordTo_succ, show nth lf k = x by (unfold nth; rw [hxk.out]; rfl), HLF2.out, HSV.out, HV.out])
          have hsb := ord_small (b := b) hb8 HLF.out (by rw [HL.out]; exact h5) HG.out (k := k + 1) (by omega)
          rw [HSV2.out] at hsb
          obtain ⟨hsb1, hsb2⟩ := hsb
          have hws : IntKind.i64.wrap (sv + v) = sv + v := IntWalk.i64_in _ (by omega)
          have hl11 : l + 1 + n ≤ 5 := by omega
          clear hsb1 hsb2
          have hS : ∀ w', Below w9.heap.size w9 w' → w'.cell? (ad.add k) = some (.int .i64 x) ∧ Below w9.heap.size w9 w' := fun w' h => ⟨(h.cell (by rw [addr_block]; exact had9)).trans hc9, h⟩
          have h_r := ho9.ri
          have k_r := ho9.cap
          clear ho9 hb8b hb8a ho8 hg8 hg9 hyA hyB hc9
          have oB : Oi ((w9.drew.alloc (.cells #[] 3)).alloc (.cells #[.int .i64 x] 3)) w9.heap.size (some ⟨w9.heap.size, 0, none⟩) 0 0 [] := (Oi.lit0 w9.drew).alloc _
          have oC : Oi ((w9.drew.alloc (.cells #[.int .i64 x] 3)).alloc (.cells #[] 3)) w9.heap.size (some ⟨w9.heap.size + 1, 0, none⟩) 0 0 [] := lit0C w9.drew x
          have hzB : w9.heap.size ≤ ((w9.drew.alloc (.cells #[] 3)).alloc (.cells #[.int .i64 x] 3)).heap.size := by simp only [World.size_alloc]; show w9.heap.size ≤ w9.heap.size + 1 + 1; omega
          have hzC : w9.heap.size ≤ ((w9.drew.alloc (.cells #[.int .i64 x] 3)).alloc (.cells #[] 3)).heap.size := by simp only [World.size_alloc]; show w9.heap.size ≤ w9.heap.size + 1 + 1; omega
          have hb1B : w9.heap.size ≤ (w9.drew.alloc (.cells #[] 3)).heap.size := by simp only [World.size_alloc]; show w9.heap.size ≤ w9.heap.size + 1; omega
          have hb1C : w9.heap.size ≤ (w9.drew.alloc (.cells #[.int .i64 x] 3)).heap.size := by simp only [World.size_alloc]; show w9.heap.size ≤ w9.heap.size + 1; omega
          have hbB : Below w9.heap.size w9 ((w9.drew.alloc (.cells #[] 3)).alloc (.cells #[.int .i64 x] 3)) := ((Below.refl _ w9).drew.alloc (Nat.le_refl _) _).alloc hb1B _
          have hbC : Below w9.heap.size w9 ((w9.drew.alloc (.cells #[.int .i64 x] 3)).alloc (.cells #[] 3)) := ((Below.refl _ w9).drew.alloc (Nat.le_refl _) _).alloc hb1C _
          have hxB : Ri ((w9.drew.alloc (.cells #[] 3)).alloc (.cells #[.int .i64 x] 3)) w9.heap.size A1 l bg := hx9.below hbB
          have hxC : Ri ((w9.drew.alloc (.cells #[.int .i64 x] 3)).alloc (.cells #[] 3)) w9.heap.size A1 l bg := hx9.below hbC
          go_wp2
          go_region_held3 (fun w' => w'.cell? (ad.add k) = some (.int .i64 x) ∧ Below w9.heap.size w9 w') (first | exact hS _ (Below.refl _ _) | exact hS _ (Below.refl _ _).drew | exact hS _ ((Below.refl _ _).drew.alloc (Nat.le_refl _) _) | exact hS _ ((Below.refl _ _).alloc (Nat.le_refl _) _) | exact hS _ hbB | exact hS _ hbC | exact hS _ hb12 | exact hS _ hb11 | exact hS _ (hb10.alloc hb10.size _) | exact hS _ hb10)
            (first
              | ((refine step_push_ints (by rfl) (.tmp 53) (.tmp 54) (by rfl) w9.heap.size (some ⟨w9.heap.size, 0, none⟩) 0 0 [] (by rfl) (Oi.lit0 w9.drew) _ A1 l c1 bg (by rfl) (hx9.alloc (Nat.le_refl _) (.cells #[] 3)) (by omega) (by omega) (by first | (simp; done) | (simp only [World.size_alloc]; omega) | (simp; omega)) ?_; intro A10 c10 w10 ho10 hg10; simp only [Nat.zero_add, List.nil_append] at ho10 ⊢; have hb10 : Below w9.heap.size w9 w10 := (Oi.lit0 w9.drew).grew ((Below.refl w9.heap.size w9).drew.alloc (Nat.le_refl _) (.cells #[] 3)) (by first | (simp; done) | (simp only [World.size_alloc]; omega) | (simp; omega)) (Nat.le_refl _) hg10))
              | ((refine step_push_ints (by rfl) (.tmp 53) (.tmp 54) (by rfl) w9.heap.size (some ⟨w9.heap.size, 0, none⟩) 0 0 [] (by rfl) oB _ A1 l c1 bg (by rfl) hxB (by omega) (by omega) hzB ?_; intro A10 c10 w10 ho10 hg10; simp only [Nat.zero_add, List.nil_append] at ho10 ⊢; have hb10 : Below w9.heap.size w9 w10 := oB.grew hbB hzB (Nat.le_refl _) hg10; have hq10 : Ri w10 w10.heap.size (some ⟨w9.heap.size + 1, 0, none⟩) 1 [x] := litB (w := w9.drew) hg10))
              | ((refine step_push_ints (by rfl) (.tmp 53) (.tmp 54) (by rfl) w9.heap.size (some ⟨w9.heap.size + 1, 0, none⟩) 0 0 [] (by rfl) oC _ A1 l c1 bg (by rfl) hxC (by omega) (by omega) hzC ?_; intro A10 c10 w10 ho10 hg10; simp only [Nat.zero_add, List.nil_append] at ho10 ⊢; have hb10 : Below w9.heap.size w9 w10 := oC.grew hbC hzC (Nat.le_refl _) hg10; have hq10 : Ri w10 w10.heap.size (some ⟨w9.heap.size, 0, none⟩) 1 [x] := litC (w := w9.drew) hg10))
              | ((refine step_push_ints (by rfl) (.tmp 55) (.tmp 60) (by rfl) w9.heap.size A10 l c10 bg (by rfl) (ho10.alloc (.cells #[.int .i64 x] 3)) _ (some ⟨w10.heap.size, 0, none⟩) 1 1 [x] (by rfl) (Oi.lit1 w10 x).ri (by omega) (by omega) (by simp only [World.size_alloc]; have := hb10.size; omega) ?_; intro A11 c11 w11 ho11 hg11; have hb11 : Below w9.heap.size w9 w11 := (ho10.alloc (.cells #[.int .i64 x] 3)).grew (hb10.alloc hb10.size (.cells #[.int .i64 x] 3)) (by simp only [World.size_alloc]; have := hb10.size; omega) (Nat.le_refl _) hg11))
              | ((refine step_push_ints (by rfl) (.tmp 55) (.tmp 60) (by rfl) w9.heap.size A10 l c10 bg (by rfl) ho10 _ (some ⟨w9.heap.size + 1, 0, none⟩) 1 1 [x] (by rfl) hq10 (by omega) (by omega) hb10.size ?_; intro A11 c11 w11 ho11 hg11; have hb11 : Below w9.heap.size w9 w11 := ho10.grew hb10 hb10.size (Nat.le_refl _) hg11))
              | ((refine step_push_ints (by rfl) (.tmp 55) (.tmp 60) (by rfl) w9.heap.size A10 l c10 bg (by rfl) ho10 _ (some ⟨w9.heap.size, 0, none⟩) 1 1 [x] (by rfl) hq10 (by omega) (by omega) hb10.size ?_; intro A11 c11 w11 ho11 hg11; have hb11 : Below w9.heap.size w9 w11 := ho10.grew hb10 hb10.size (Nat.le_refl _) hg11))
              | ((go_at_call 47; refine (IH.out A11 (l + 1) c11 (bg ++ [x]) A9 c9 LF w11 ho11.ri (h_r.next hb11 (Nat.le_refl _) hb11.size) ho11.cap k_r hl11 HG2).mono ?_; rintro e w12 ⟨rfl, hb12a⟩; have hb12 : Below w9.heap.size w9 w12 := hb11.trans (hb12a.mono hb11.size); rw [HV.out])))
          all_goals
            have hb13 : Below w.heap.size w w12 := hb9.trans (hb12.mono hsz9)
            clear oB oC hbB hbC hxB hxC hzB hzC hb1B hb1C hS hb12a hb12 hb11 hb10 ho11 ho10 hg10 hg11
            go_wp2
            go_roundw
            case rel => exact ⟨k + 1, sv + v, by omega, by go_num, rfl, HSV2, hb13⟩
            case measure => (try simp [intOf]) <;> (try omega)
      · obtain rfl : k = n + 1 := by omega
        go_wp2
        go_ret2
        exact ⟨ret_nb HSV.out.symm, hb⟩
end Go.Proofs.Ytkeiajncmhkdmaa
