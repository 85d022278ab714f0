/-
  Plain: with a greater To no fewer rounds are in time; with one stop less, at an end, no shortest round is longer. And rows of stops of the call's own: a stop is written.
-/
import Derived.Test.YtaekjnjignlmoaaAp
import Derived.Test.YtaekjnjignlmoaaLp
namespace Go.Proofs.Ytaekjnjignlmoaa
open Go.RowKit

theorem raise_at {ps : List (Int × Int)} {k : Nat} (hk : k < ps.length) (y : Int) (i : Nat) : plc (ps.set k (plc ps k, y)) i = plc ps i ∧ too (ps.set k (plc ps k, y)) i = if k = i then y else too ps i := by
  unfold plc too
  rw [List.getElem?_set]
  by_cases h : k = i
  · subst h
    rw [if_pos rfl, if_pos hk]
    simp
  · rw [if_neg h, if_neg h]
    exact ⟨rfl, rfl⟩
theorem raise_wider {ps : List (Int × Int)} {k : Nat} (hk : k < ps.length) {y : Int} (hy : too ps k ≤ y) : Wider ps (ps.set k (plc ps k, y)) := by
  refine ⟨by simp, fun i _ => (raise_at hk y i).1, fun i _ => ?_⟩
  rw [(raise_at hk y i).2]
  split
  · rename_i h; subst h; exact hy
  · exact Int.le_refl _
theorem raise_pier {b : Int} {ps : List (Int × Int)} (hp : Pier b ps) {k : Nat} (hk : k < ps.length) {y : Int} (hy : too ps k ≤ y ∧ y ≤ 9000) : Pier b (ps.set k (plc ps k, y)) := by
  refine same_pier hp (by simp) (fun i _ => (raise_at hk y i).1) fun i _ => ?_
  rw [(raise_at hk y i).2]
  have h1 := hp.at_ i
  have h2 := hp.at_ k
  split <;> omega
theorem more_count {b : Int} {ps : List (Int × Int)} (hp : Pier b ps) {k : Nat} (hk : k < ps.length) {y : Int} (hy : too ps k ≤ y ∧ y ≤ 9000) : (goodR b ps).length ≤ (goodR b (ps.set k (plc ps k, y))).length :=
  wider_count hp (raise_pier hp hk hy) (raise_wider hk hy.1)
theorem more_round {b : Int} {ps : List (Int × Int)} (hp : Pier b ps) {g : Nat} (hg : g < ps.length) (he : g = 0 ∨ g = ps.length - 1) (h2 : 2 ≤ ps.length) {l : List Nat} (hl : l ∈ allR b ps) (h : (checkRoundS b ps (ofN l)).2 = 0) : (checkRoundS b (cutS g ps) (ofN (lessL g l))).2 = 0 := by
  have h1 := ckRound_all hp hl
  unfold ofN at h
  rw [h1] at h
  split at h
  · rename_i hin
    have h3 := (cut_good hp hg he h2 (mem_goodR.2 ⟨hl, hin⟩)).1
    have h4 := ckRound_good (cut_pier hp hg h2) h3
    unfold ofN
    rw [h4]
  · simp at h
theorem lessL_len (g : Nat) (l : List Nat) : (lessL g l).length ≤ l.length := by
  unfold lessL
  rw [List.length_map]
  exact List.length_filter_le _ _
theorem lessL_take {g k x : Nat} {l : List Nat} (h : l[k]? = some x) : lessL g (l.take (k + 1)) = if x = g then lessL g (l.take k) else lessL g (l.take k) ++ [dn g x] := by
  rw [take_snoc h, lessL_snoc]
theorem checkRound_len {b : Int} {ps : List (Int × Int)} {L : List Int} : (checkRoundS b ps L).2 = 0 ∨ ¬ (checkRoundS b ps L).2 = 0 := by omega
theorem short_cut {b : Int} {ps : List (Int × Int)} (hp : Pier b ps) {g : Nat} (hg : g < ps.length) (he : g = 0 ∨ g = ps.length - 1) (h2 : 2 ≤ ps.length) : ((shortestS b ps).2.2 = 0 ∧ (shortestS b (cutS g ps)).2.2 = 0 ∧ (shortestS b (cutS g ps)).2.1 ≤ (shortestS b ps).2.1) ∨ ¬ (shortestS b ps).2.2 = 0 := by
  by_cases h : (shortestS b ps).2.2 = 0
  · exact Or.inl ⟨h, cut_shortest hp hg he h2 h⟩
  · exact Or.inr h
theorem more_cases {b : Int} {ps : List (Int × Int)} (hp : Pier b ps) (bs : List Int) : (checkRoundS b ps (ofN (walkedL b ps bs)) = ([], 12) ∧ shortestS b ps = ([], 0, 12)) ∨ ((∃ S, checkRoundS b ps (ofN (walkedL b ps bs)) = (S, 0)) ∧ ∃ x y, shortestS b ps = (x, y, 0)) ∨ (checkRoundS b ps (ofN (walkedL b ps bs)) = ([], 12) ∧ ∃ x y, shortestS b ps = (x, y, 0)) := by
  have hw := walked_all b ps bs
  have h1 := ckRound_all hp hw
  unfold ofN
  rw [h1]
  unfold shortestS
  rw [if_pos (checkPier_ok.2 hp)]
  by_cases h0 : goodR b ps = []
  · left
    rw [if_pos h0, if_neg]
    · exact ⟨rfl, rfl⟩
    · intro h
      have h2 := mem_goodR.2 ⟨hw, h⟩
      rw [h0] at h2
      cases h2
  · right
    rw [if_neg h0]
    by_cases h : inTimeB b ps (walkedL b ps bs) = true
    · left
      rw [if_pos h]
      exact ⟨⟨_, rfl⟩, _, _, rfl⟩
    · right
      rw [if_neg h]
      exact ⟨rfl, _, _, rfl⟩
theorem pv_set : ∀ (ps : List (Int × Int)) (k : Nat) (y : Int), k < ps.length → (pv ps).set (k * 2 + 1) (.int .i64 y) = pv (ps.set k (plc ps k, y))
  | [], k, y, h => by simp at h
  | p :: ps, 0, y, h => by simp [pv, plc]
  | p :: ps, k + 1, y, h => by
    have := pv_set ps k y (by simpa using h)
    rw [show (k + 1) * 2 + 1 = (k * 2 + 1) + 1 + 1 by omega]
    have e : plc (p :: ps) (k + 1) = plc ps k := by unfold plc; rw [List.getElem?_cons_succ]
    rw [List.set_cons_succ, e]
    simp only [pv, List.set_cons_succ, this]
theorem Os.lit0 (w : World) : Os (w.alloc (.cells #[] 67)) w.heap.size (some ⟨w.heap.size, 0, none⟩) 0 0 [] := World.ownsRow_lit w #[] 0 (Nat.le_refl _) (by decide) rfl
section
variable {w : World} {base n c : Nat} {A : Option Addr} {ps : List (Int × Int)}
theorem Os.row (h : Os w base A n c ps) (hn : 0 < n) : ∃ g : Nat, A = some ⟨g, 0, none⟩ ∧ base ≤ g ∧ g < w.heap.size := by
  obtain ⟨g, cap, hv, h1, h2⟩ := World.ownsRow.form h hn
  have hA : A = some ⟨g, 0, none⟩ := by injection hv
  exact ⟨g, hA, h1, h2⟩
theorem lit_add (g j : Nat) : (⟨((⟨g, 0, none⟩ : Addr).add j).block, ((⟨g, 0, none⟩ : Addr).add j).off + 1, none⟩ : Addr) = ⟨g, j + 1, none⟩ := by
  unfold Addr.add
  by_cases h : j = 0
  · subst h; simp
  · rw [if_neg h]; simp
theorem Os.frozen2 {ad : Addr} (h : Os w base (some ad) n c ps) (hn : 0 < n) (k : Nat) : w.frozen? ⟨(ad.add (k * 2)).block, (ad.add (k * 2)).off + 1, none⟩ = false := by
  obtain ⟨g, e, _⟩ := h.row hn
  obtain rfl := Option.some.inj e
  rw [lit_add]
  exact World.ownsRow.frozenAt h _
theorem Os.put2 {ad : Addr} (h : Os w base (some ad) n c ps) {k : Nat} (hk : k < n) (y : Int) : Os (w.setCell ⟨(ad.add (k * 2)).block, (ad.add (k * 2)).off + 1, none⟩ (.int .i64 y)) base (some ad) n c (ps.set k (plc ps k, y)) := by
  obtain ⟨g, e, _⟩ := h.row (by omega)
  obtain rfl := Option.some.inj e
  rw [lit_add]
  have := (World.ownsRow.stored h (k * 2 + 1) (.int .i64 y)).1
  unfold Os
  rw [← pv_set ps k y (by rw [h.len]; exact hk)]
  exact this
theorem Os.below2 {ad : Addr} {B : Nat} {w0 : World} (h : Os w base (some ad) n c ps) (hn : 0 < n) (hb : Below B w0 w) (hB : B ≤ base) (k : Nat) (y : Value) : Below B w0 (w.setCell ⟨(ad.add (k * 2)).block, (ad.add (k * 2)).off + 1, none⟩ y) := by
  obtain ⟨g, e, h1, _⟩ := h.row hn
  obtain rfl := Option.some.inj e
  rw [lit_add]
  exact hb.setCell (p := ⟨g, k * 2 + 1, none⟩) (by show B ≤ g; omega) y
theorem Os.box2 {ad : Addr} {u : Nat} {t : TypeId} {cs : Array Value} (h : Os w base (some ad) n c ps) (hn : 0 < n) (hk : Bk w u t cs) (ht : t ≠ 67) (k : Nat) (y : Value) : Bk (w.setCell ⟨(ad.add (k * 2)).block, (ad.add (k * 2)).off + 1, none⟩ y) u t cs := by
  have hne := h.bk_ne hk ht
  obtain ⟨g, e, _⟩ := h.row hn
  obtain rfl := Option.some.inj e
  rw [lit_add]
  exact (Below.heap_setCell _ _ _ _ (fun e => hne (by rw [e]; rfl))).trans hk
end
end Go.Proofs.Ytaekjnjignlmoaa
