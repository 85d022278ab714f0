/-
  'append(own, row...)': a row of the call's own grows by a row that lies whatever where, nil too; in plain regions and in those that draw their order. Parts of rows.
-/
import Derived.Test.YtaekjnjignlmoaaStp
import Derived.Test.YtaekjnjignlmoaaClash
namespace Go.Proofs.Ytaekjnjignlmoaa
open Go.RowKit

section
variable {w w' : World} {B size n : Nat} {A : Option Addr} {cs : List Value}
theorem add_add (ad : Addr) (i j : Nat) : (ad.add i).add j = ad.add (i + j) := by
  unfold Addr.add
  by_cases hi : i = 0
  · subst hi; simp
  · by_cases hj : j = 0
    · subst hj; simp
    · rw [if_neg hi, if_neg hj, if_neg (by omega)]
      simp only [Nat.add_assoc]
theorem Rd.front (h : Rd w B size A n cs) {k : Nat} (hk : k ≤ n) : Rd w B size A k (cs.take (k * size)) := by
  have h1 : k * size ≤ n * size := Nat.mul_le_mul_right _ hk
  refine ⟨by rw [List.length_take, h.1]; omega, fun h0 => ?_⟩
  obtain ⟨ad, e, hb, hc⟩ := h.2 (by omega)
  refine ⟨ad, e, hb, fun j hj => ?_⟩
  rw [List.getElem_take]
  exact hc j _
theorem Rd.back {ad : Addr} (h : Rd w B size (some ad) n cs) {k : Nat} (hk : k ≤ n) : Rd w B size (some (ad.add (k * size))) (n - k) (cs.drop (k * size)) := by
  refine ⟨by rw [List.length_drop, h.1, Nat.sub_mul], fun h0 => ?_⟩
  obtain ⟨ad', e, hb, hc⟩ := h.2 (by omega)
  obtain rfl := Option.some.inj e
  refine ⟨_, rfl, by rw [addr_block]; exact hb, fun j hj => ?_⟩
  rw [add_add, List.getElem_drop]
  exact hc _ _
end
section
variable {P : Program} {w : World} {o : Oper} {a : Act}
theorem wp_push_row {K : Act → World → Prop} {Q : Exit → Act → World → Prop} (s x : Operand) (t : TypeId)
    (ho : o.op = .call { callee := .builtin .append, args := #[s, x], argTypes := #[t, t] })
    (base : Nat) (e : TypeId) (i : TypeInfo) (z : Value) (size bytes : Nat) (ht : P.underlying t = some (.slice e)) (hi : P.info? e = some i) (hz : i.zero = some z)
    (hsize : i.size = size) (hby : i.bytes = bytes) (hzs : z.cells.size = size) (hsz : 0 < size)
    (A : Option Addr) (n c : Nat) (xs : List Value) (hs : a.eval s = .slice A n c) (hown : w.ownsRow base e size (.slice A n c) n xs)
    (B : Nat) (D : Option Addr) (m c' : Nat) (news : List Value) (hx : a.eval x = .slice D m c') (hy : Rd w B size D m news) (h1 : ∀ u ∈ news, u.oneCell' = true)
    (h63 : n + m ≤ maxLen) (hbytes : (n + m) * bytes ≤ 140737488355328) (hbase : base ≤ w.heap.size)
    (h : ∀ A' cap w', w'.ownsRow base e size (.slice A' (n + m) cap) (n + m) (xs ++ news) → w.grownBy w' (A.map Addr.block) → K (a.put o.dst (.slice A' (n + m) cap)) w') : o.wp P a w K Q := by
  rcases D with _ | ad
  · have hm : m = 0 := by
      rcases Nat.eq_zero_or_pos m with h0 | h0
      · exact h0
      · obtain ⟨ad, h, _⟩ := hy.2 h0
        cases h
    subst hm
    have hn : news = [] := List.eq_nil_of_length_eq_zero (by rw [hy.1, Nat.zero_mul])
    subst hn
    have hrun := run_append_none (P := P) w base _ o.type _ i size ht hi (.slice A n c) n xs hown c'
    unfold Oper.wp execOp
    simp only [ho, resolve, invoke, builtin, Sem.run_bind, Sem.run_pure, Result.andThen_ok, List.map_toArray, List.map_cons, List.map_nil, hs, hx, hrun]
    exact h A c w (by simpa using hown) (World.grownBy.refl w _)
  · obtain ⟨v', w', hrun, hown', hgrow, _⟩ := run_append_own (P := P) w base _ o.type e i z size bytes ht hi hz hsize hby hzs hsz _ n xs hown ad m c' news hy.1 (fun j u hj => by
      rcases Nat.eq_zero_or_pos m with h0 | h0
      · subst h0
        have : news = [] := List.eq_nil_of_length_eq_zero (by rw [hy.1, Nat.zero_mul])
        subst this
        simp at hj
      · obtain ⟨ad', e', _, hc⟩ := hy.2 h0
        obtain rfl := Option.some.inj e'
        obtain ⟨hl, rfl⟩ := List.getElem?_eq_some_iff.1 hj
        exact hc j hl) h1 h63 hbytes hbase
    have hv : ∃ A' cap, v' = .slice A' (n + m) cap := by
      rcases hown'.2 with ⟨rfl, h0⟩ | ⟨g, cap, cur, rfl, _⟩
      · exact ⟨none, 0, by rw [h0]⟩
      · exact ⟨_, cap, rfl⟩
    obtain ⟨A', cap, rfl⟩ := hv
    unfold Oper.wp execOp
    simp only [ho, resolve, invoke, builtin, Sem.run_bind, Sem.run_pure, Result.andThen_ok, List.map_toArray, List.map_cons, List.map_nil, hs, hx, hrun]
    exact h A' cap w' hown' (by cases A <;> exact hgrow)
end
section
variable {w : World} {ops : Array Oper} {o : Oper} {a : Act} {Q : Exit → Act → World → Prop}
/-- Numbers. -/
theorem wp_push_nums {K : Act → World → Prop} (s x : Operand)
    (ho : o.op = .call { callee := .builtin .append, args := #[s, x], argTypes := #[25, 25] })
    (base : Nat) (A : Option Addr) (n c : Nat) (xs : List Int) (hs : a.eval s = .slice A n c) (hown : Oj w base A n c xs)
    (B : Nat) (D : Option Addr) (m c' : Nat) (ys : List Int) (hx : a.eval x = .slice D m c') (hy : Ri w B D m ys) (hlen : n < 549755813888) (hlen2 : m < 549755813888) (hbase : base ≤ w.heap.size)
    (h : ∀ A' cap w', Oj w' base A' (n + m) cap (xs ++ ys) → w.grownBy w' (A.map Addr.block) → K (a.put o.dst (.slice A' (n + m) cap)) w') : o.wp Try.prog a w K Q := by
  obtain ⟨i0, hi, hz0, hz1, hz2⟩ := info_parts info_num
  refine wp_push_row s x _ ho base _ i0 _ 1 8 under_nums hi hz0 hz1 hz2 rfl (by decide) A n c _ hs hown B D m c' _ hx hy (ints_oneCell _ _) (by unfold maxLen; omega) (by omega) hbase fun A' cap w' g1 g2 => h A' cap w' (by unfold Oj; rw [ints_append]; exact g1) g2
theorem step_push_nums {K : Act → World → Prop} {E : Prop} (hgd : o.guard = none) (s x : Operand)
    (ho : o.op = .call { callee := .builtin .append, args := #[s, x], argTypes := #[25, 25] })
    (base : Nat) (A : Option Addr) (n c : Nat) (xs : List Int) (hs : a.eval s = .slice A n c) (hown : Oj w base A n c xs)
    (B : Nat) (D : Option Addr) (m c' : Nat) (ys : List Int) (hx : a.eval x = .slice D m c') (hy : Ri w B D m ys) (hlen : n < 549755813888) (hlen2 : m < 549755813888) (hbase : base ≤ w.heap.size)
    (h : ∀ A' cap w', Oj w' base A' (n + m) cap (xs ++ ys) → w.grownBy w' (A.map Addr.block) → K (a.put o.dst (.slice A' (n + m) cap)) w') :
    if Region.wanted o (yielded ops a.tmps) = true then Oper.wp Try.prog o a w K Q else E := by
  rw [if_pos (by simp [Region.wanted, hgd])]
  exact wp_push_nums s x ho base A n c xs hs hown B D m c' ys hx hy hlen hlen2 hbase h
/-- Stops. -/
theorem pv_app (ps qs : List (Int × Int)) : pv (ps ++ qs) = pv ps ++ pv qs := by
  induction ps with
  | nil => rfl
  | cons p ps ih => simp only [List.cons_append, pv, ih]
theorem pv_one (ps : List (Int × Int)) : ∀ u ∈ pv ps, u.oneCell' = true := by
  induction ps with
  | nil => intro u h; cases h
  | cons p ps ih =>
    intro u h
    simp only [pv, List.mem_cons] at h
    rcases h with rfl | rfl | h
    · rfl
    · rfl
    · exact ih u h
theorem wp_push_stops {K : Act → World → Prop} (s x : Operand)
    (ho : o.op = .call { callee := .builtin .append, args := #[s, x], argTypes := #[22, 22] })
    (base : Nat) (A : Option Addr) (n c : Nat) (ps : List (Int × Int)) (hs : a.eval s = .slice A n c) (hown : Os w base A n c ps)
    (B : Nat) (D : Option Addr) (m c' : Nat) (qs : List (Int × Int)) (hx : a.eval x = .slice D m c') (hy : Rp w B D m qs) (hlen : n < 549755813888) (hlen2 : m < 549755813888) (hbase : base ≤ w.heap.size)
    (h : ∀ A' cap w', Os w' base A' (n + m) cap (ps ++ qs) → w.grownBy w' (A.map Addr.block) → K (a.put o.dst (.slice A' (n + m) cap)) w') : o.wp Try.prog a w K Q := by
  obtain ⟨i0, hi, hz0, hz1, hz2⟩ := info_parts info_stop
  refine wp_push_row s x _ ho base _ i0 _ 2 16 under_stops hi hz0 hz1 hz2 rfl (by decide) A n c _ hs hown B D m c' _ hx hy (pv_one _) (by unfold maxLen; omega) (by omega) hbase fun A' cap w' g1 g2 => h A' cap w' (by unfold Os; rw [pv_app]; exact g1) g2
theorem step_push_stops {K : Act → World → Prop} {E : Prop} (hgd : o.guard = none) (s x : Operand)
    (ho : o.op = .call { callee := .builtin .append, args := #[s, x], argTypes := #[22, 22] })
    (base : Nat) (A : Option Addr) (n c : Nat) (ps : List (Int × Int)) (hs : a.eval s = .slice A n c) (hown : Os w base A n c ps)
    (B : Nat) (D : Option Addr) (m c' : Nat) (qs : List (Int × Int)) (hx : a.eval x = .slice D m c') (hy : Rp w B D m qs) (hlen : n < 549755813888) (hlen2 : m < 549755813888) (hbase : base ≤ w.heap.size)
    (h : ∀ A' cap w', Os w' base A' (n + m) cap (ps ++ qs) → w.grownBy w' (A.map Addr.block) → K (a.put o.dst (.slice A' (n + m) cap)) w') :
    if Region.wanted o (yielded ops a.tmps) = true then Oper.wp Try.prog o a w K Q else E := by
  rw [if_pos (by simp [Region.wanted, hgd])]
  exact wp_push_stops s x ho base A n c ps hs hown B D m c' qs hx hy hlen hlen2 hbase h
end
section
variable {w : World} {B n : Nat} {A : Option Addr}
theorem Ri.back {ad : Addr} {xs : List Int} (h : Ri w B (some ad) n xs) {k : Nat} (hk : k ≤ n) : Ri w B (some (ad.add k)) (n - k) (xs.drop k) := by
  have := Rd.back h hk
  rw [Nat.mul_one, ints, ← List.map_drop] at this
  exact this
theorem pv_take : ∀ (ps : List (Int × Int)) (k : Nat), (pv ps).take (k * 2) = pv (ps.take k)
  | [], k => by simp [pv]
  | p :: ps, 0 => by simp [pv]
  | p :: ps, k + 1 => by rw [show (k + 1) * 2 = k * 2 + 1 + 1 by omega, List.take_succ_cons]; simp only [pv, List.take_succ_cons, pv_take ps k]
theorem pv_drop : ∀ (ps : List (Int × Int)) (k : Nat), (pv ps).drop (k * 2) = pv (ps.drop k)
  | [], k => by simp [pv]
  | p :: ps, 0 => by simp [pv]
  | p :: ps, k + 1 => by rw [show (k + 1) * 2 = k * 2 + 1 + 1 by omega, List.drop_succ_cons]; simp only [pv, List.drop_succ_cons, pv_drop ps k]
theorem Rp.front {ps : List (Int × Int)} (h : Rp w B A n ps) {k : Nat} (hk : k ≤ n) : Rp w B A k (ps.take k) := by
  have := Rd.front h hk
  rw [pv_take] at this
  exact this
theorem Rp.back {ad : Addr} {ps : List (Int × Int)} (h : Rp w B (some ad) n ps) {k : Nat} (hk : k ≤ n) : Rp w B (some (ad.add (k * 2))) (n - k) (ps.drop k) := by
  have := Rd.back h hk
  rw [pv_drop] at this
  exact this
end
end Go.Proofs.Ytaekjnjignlmoaa
