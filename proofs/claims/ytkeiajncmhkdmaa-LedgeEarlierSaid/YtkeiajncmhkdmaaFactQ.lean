/-
  Plain facts: round a wheel; a ledge and a wheel; sorted drops; earlier drops; one more drop.
-/
import Derived.Test.YtkeiajncmhkdmaaFactP
namespace Go.Proofs.Ytkeiajncmhkdmaa

/-! ### Round a wheel -/
theorem slid1_spec {b : Nat} {L : List Int} : ∀ (f : Nat) (d : Int), ((b : Int) - d).toNat = f → d ≤ b → (∀ x, d ≤ x → x < slid1 (b : Int) L d → x ∈ L) ∧ (slid1 (b : Int) L d < b → slid1 (b : Int) L d ∉ L) := by
  intro f
  induction f with
  | zero =>
    intro d hf hd
    have : d = (b : Int) := by omega
    subst this
    rw [slid1_stop (by omega)]
    exact ⟨fun x h1 h2 => by omega, fun h => by omega⟩
  | succ f ih =>
    intro d hf hd
    by_cases hm : d < (b : Int) ∧ d ∈ L
    · rw [slid1_go hm]
      have h := ih (d + 1) (by omega) (by omega)
      refine ⟨fun x h1 h2 => ?_, h.2⟩
      by_cases e : x = d
      · subst e; exact hm.2
      · exact h.1 x (by omega) h2
    · rw [slid1_stop hm]
      exact ⟨fun x h1 h2 => by omega, fun h h2 => hm ⟨h, h2⟩⟩
/-- From d on, round a wheel of b places, the first place that is not in L is j places on. -/
def Goes (b : Nat) (L : List Int) (d : Int) (j : Nat) : Prop := (d + j) % (b : Int) ∉ L ∧ ∀ i : Nat, i < j → (d + i) % (b : Int) ∈ L
theorem goes_one {b : Nat} {L : List Int} {d : Int} {j k : Nat} (h : Goes b L d j) (h' : Goes b L d k) : j = k := by
  rcases Nat.lt_trichotomy j k with hlt | he | hgt
  · exact absurd (h'.2 j hlt) h.1
  · exact he
  · exact absurd (h.2 k hgt) h'.1
theorem goes_ex {b : Nat} {L : List Int} {d : Int} (hr : L.length < b) (hd : 0 ≤ d ∧ d < (b : Int)) : ∃ j : Nat, Goes b L d j ∧ wlie (b : Int) L d = (d + j) % (b : Int) ∧ wfar (b : Int) L d = j := by
  have h1 := slid1_spec (b := b) (L := L) _ d rfl (by omega)
  have b1 := slid1_bd (places := (b : Int)) (L := L) (at_ := d) (by omega)
  have h2 := slid1_spec (b := b) (L := L) _ 0 rfl (by omega)
  have b2 := slid1_bd (places := (b : Int)) (L := L) (at_ := 0) (by omega)
  have hroom := slid1_room hr
  unfold wlie wfar
  by_cases hw : slid1 (b : Int) L d = b
  · rw [if_pos hw, if_pos hw]
    generalize slid1 (b : Int) L 0 = F at *
    refine ⟨(F - d + b).toNat, ⟨?_, fun i hi => ?_⟩, ?_, by omega⟩
    · have e : d + ((F - d + b).toNat : Int) = F + b := by omega
      rw [e, Int.add_emod_right, Int.emod_eq_of_lt b2.1 hroom]
      exact h2.2 hroom
    · by_cases hlt : d + (i : Int) < b
      · rw [Int.emod_eq_of_lt (by omega) hlt]
        exact h1.1 _ (by omega) (by omega)
      · have e : d + (i : Int) = (d + i - b) + b := by omega
        rw [e, Int.add_emod_right, Int.emod_eq_of_lt (by omega) (by omega)]
        exact h2.1 _ (by omega) (by omega)
    · have e : d + ((F - d + b).toNat : Int) = F + b := by omega
      rw [e, Int.add_emod_right, Int.emod_eq_of_lt b2.1 hroom]
  · rw [if_neg hw, if_neg hw]
    generalize slid1 (b : Int) L d = A at *
    refine ⟨(A - d).toNat, ⟨?_, fun i hi => ?_⟩, ?_, by omega⟩
    · have e : d + ((A - d).toNat : Int) = A := by omega
      rw [e, Int.emod_eq_of_lt (by omega) (by omega)]
      exact h1.2 (by omega)
    · rw [Int.emod_eq_of_lt (by omega) (by omega)]
      exact h1.1 _ (by omega) (by omega)
    · have e : d + ((A - d).toNat : Int) = A := by omega
      rw [e, Int.emod_eq_of_lt (by omega) (by omega)]
theorem goes_other {b : Nat} {L : List Int} {d x : Int} {j : Nat} (h : Goes b L d j) (hx : (d + j) % (b : Int) ≠ x) : Goes b (L ++ [x]) d j :=
  ⟨fun hm => by
    rcases List.mem_append.1 hm with h1 | h1
    · exact h.1 h1
    · exact hx (List.mem_singleton.1 h1), fun i hi => by simp [h.2 i hi]⟩
theorem goes_on {b : Nat} {L : List Int} {d : Int} {j k : Nat} (h : Goes b L d j) (hk : Goes b (L ++ [(d + j) % (b : Int)]) ((d + j) % (b : Int)) k) : Goes b (L ++ [(d + j) % (b : Int)]) d (j + k) := by
  have e : ∀ i : Nat, ((d + j) % (b : Int) + i) % (b : Int) = (d + (j + i : Nat)) % (b : Int) := fun i => by rw [Int.emod_add_emod]; congr 1; omega
  refine ⟨by rw [← e]; exact hk.1, fun i hi => ?_⟩
  by_cases hij : i < j
  · simp [h.2 i hij]
  · have := hk.2 (i - j) (by omega)
    rw [e] at this
    rwa [show j + (i - j) = i by omega] at this
theorem goes_same {b : Nat} {L M : List Int} (h : Same L M) {d : Int} {j : Nat} (hg : Goes b L d j) : Goes b M d j := ⟨fun hm => hg.1 ((h _).2 hm), fun i hi => (h _).1 (hg.2 i hi)⟩
theorem stepW_same {b : Nat} {s t : List Int × Int} (h : SameS s t) (d : Int) (hs : s.1.length < b) (ht : t.1.length < b) (hd : 0 ≤ d ∧ d < (b : Int)) : SameS (stepW true (b : Int) s d) (stepW true (b : Int) t d) := by
  obtain ⟨j, h1, h2, h3⟩ := goes_ex hs hd
  obtain ⟨k, k1, k2, k3⟩ := goes_ex ht hd
  have e : j = k := goes_one (goes_same h.1 h1) k1
  subst e
  refine ⟨?_, ?_⟩
  · simp only [stepW, if_true, h2, k2]
    exact h.1.snoc _
  · simp only [stepW, if_true, h3, k3, h.2]
theorem stepW_swap {b : Nat} (s : List Int × Int) {x y : Int} (hr : s.1.length + 1 < b) (hx : 0 ≤ x ∧ x < (b : Int)) (hy : 0 ≤ y ∧ y < (b : Int)) :
    SameS (stepW true (b : Int) (stepW true (b : Int) s x) y) (stepW true (b : Int) (stepW true (b : Int) s y) x) := by
  obtain ⟨L, f⟩ := s
  simp only at hr
  obtain ⟨jx, x1, x2, x3⟩ := goes_ex (L := L) (by omega) hx
  obtain ⟨jy, y1, y2, y3⟩ := goes_ex (L := L) (by omega) hy
  obtain ⟨ky, u1, u2, u3⟩ := goes_ex (L := L ++ [wlie (b : Int) L x]) (by simp; omega) hy
  obtain ⟨kx, v1, v2, v3⟩ := goes_ex (L := L ++ [wlie (b : Int) L y]) (by simp; omega) hx
  have hmod : ∀ z : Int, 0 ≤ z % (b : Int) ∧ z % (b : Int) < b := fun z => ⟨Int.emod_nonneg _ (by omega), Int.emod_lt_of_pos _ (by omega)⟩
  by_cases hAB : (x + jx) % (b : Int) = (y + jy) % (b : Int)
  · obtain ⟨k, w1, w2, w3⟩ := goes_ex (L := L ++ [(x + jx) % (b : Int)]) (d := (x + jx) % (b : Int)) (by simp; omega) (hmod _)
    have e1 : ky = jy + k := by
      rw [x2] at u1
      rw [hAB] at u1 w1
      exact goes_one u1 (goes_on y1 w1)
    have e2 : kx = jx + k := by
      rw [y2, ← hAB] at v1
      exact goes_one v1 (goes_on x1 w1)
    have t1 : (y + (ky : Int)) % (b : Int) = ((x + jx) % (b : Int) + k) % (b : Int) := by rw [e1, hAB, Int.emod_add_emod]; congr 1; omega
    have t2 : (x + (kx : Int)) % (b : Int) = ((x + jx) % (b : Int) + k) % (b : Int) := by rw [e2, Int.emod_add_emod]; congr 1; omega
    refine ⟨?_, ?_⟩
    · simp only [stepW, if_true]
      rw [u2, v2, t1, t2, x2, y2, hAB]
      exact Same.rfl_ _
    · simp only [stepW, if_true]
      rw [u3, v3, x3, y3, e1, e2]
      omega
  · have e1 : ky = jy := goes_one u1 (goes_other y1 (by rw [x2]; exact fun e => hAB e.symm))
    have e2 : kx = jx := goes_one v1 (goes_other x1 (by rw [y2]; exact hAB))
    refine ⟨?_, ?_⟩
    · simp only [stepW, if_true]
      rw [u2, v2, e1, e2, x2, y2]
      exact Same.flip _ _ (Same.rfl_ L)
    · simp only [stepW, if_true]
      rw [u3, v3, x3, y3, e1, e2]
      omega
theorem stepW_len (wh : Bool) (b : Int) (s : List Int × Int) (d : Int) : (stepW wh b s d).1.length = s.1.length + 1 := by unfold stepW; split <;> simp
theorem foldW_len (wh : Bool) (b : Int) (l : List Int) : ∀ s : List Int × Int, (l.foldl (stepW wh b) s).1.length = s.1.length + l.length := by
  induction l with
  | nil => intro s; rfl
  | cons d l ih => intro s; rw [List.foldl_cons, ih, stepW_len, List.length_cons]; omega
theorem foldW_same {b : Nat} (l : List Int) : (∀ d ∈ l, 0 ≤ d ∧ d < (b : Int)) → ∀ {s t : List Int × Int}, SameS s t → s.1.length + l.length ≤ b → t.1.length + l.length ≤ b → SameS (l.foldl (stepW true (b : Int)) s) (l.foldl (stepW true (b : Int)) t) := by
  induction l with
  | nil => intro _ s t h _ _; exact h
  | cons d l ih =>
    intro hd s t h h1 h2
    simp only [List.length_cons] at h1 h2
    exact ih (fun x hx => hd x (by simp [hx])) (stepW_same h d (by omega) (by omega) (hd d (by simp))) (by rw [stepW_len]; omega) (by rw [stepW_len]; omega)
theorem foldW_perm {b : Nat} {l m : List Int} (h : l.Perm m) : (∀ d ∈ l, 0 ≤ d ∧ d < (b : Int)) → ∀ s : List Int × Int, s.1.length + l.length ≤ b → SameS (l.foldl (stepW true (b : Int)) s) (m.foldl (stepW true (b : Int)) s) := by
  induction h with
  | nil => intro _ s _; exact ⟨Same.rfl_ _, rfl⟩
  | cons x _ ih =>
    intro hd s hl
    simp only [List.length_cons] at hl
    exact ih (fun d h => hd d (by simp [h])) _ (by rw [stepW_len]; omega)
  | swap x y l =>
    intro hd s hl
    simp only [List.length_cons] at hl
    exact foldW_same l (fun d h => hd d (by simp [h])) (stepW_swap s (by omega) (hd y (by simp)) (hd x (by simp))) (by rw [stepW_len, stepW_len]; omega) (by rw [stepW_len, stepW_len]; omega)
  | trans h1 _ i1 i2 => intro hd s hl; exact (i1 hd s hl).trans_ (i2 (fun d h => hd d (h1.mem_iff.2 h)) s (by rw [← h1.length_eq]; exact hl))
theorem perm_wheel {b : Nat} {l m : List Int} (h : l.Perm m) (hd : ∀ d ∈ l, 0 ≤ d ∧ d < (b : Int)) (hl : l.length ≤ b) : Same (runW true (b : Int) l).1 (runW true (b : Int) m).1 ∧ (runW true (b : Int) l).2 = (runW true (b : Int) m).2 :=
  foldW_perm h hd ([], 0) (by simpa using hl)

/-! ### A wheel that is turned -/
theorem lieW_range {b : Nat} (ds : List Int) : (∀ d ∈ ds, 0 ≤ d ∧ d < (b : Int)) → ds.length ≤ b → ∀ x ∈ (runW true (b : Int) ds).1, 0 ≤ x ∧ x < (b : Int) := by
  refine snoc_induction (p := fun ds => (∀ d ∈ ds, 0 ≤ d ∧ d < (b : Int)) → ds.length ≤ b → ∀ x ∈ (runW true (b : Int) ds).1, 0 ≤ x ∧ x < (b : Int)) (by intro _ _ x hx; cases hx) (fun ds d ih hd hl x hx => ?_) ds
  rw [List.length_append, List.length_singleton] at hl
  rw [runW_snoc] at hx
  simp only [stepW, if_true, List.mem_append, List.mem_singleton] at hx
  rcases hx with hx | rfl
  · exact ih (fun y hy => hd y (by simp [hy])) (by omega) x hx
  · obtain ⟨j, _, h2, _⟩ := goes_ex (b := b) (L := (runW true (b : Int) ds).1) (d := d) (by rw [runW_len]; omega) (hd d (by simp))
    rw [h2]
    exact ⟨Int.emod_nonneg _ (by omega), Int.emod_lt_of_pos _ (by omega)⟩
def rotI (b m : Int) (x : Int) : Int := (x + m) % b
theorem rot_inj {b m x y : Int} (hx : 0 ≤ x ∧ x < b) (hy : 0 ≤ y ∧ y < b) (h : rotI b m x = rotI b m y) : x = y := by
  unfold rotI at h
  have h1 : (x - y) % b = 0 := by
    have := Int.emod_emod_of_dvd (x + m - (y + m)) (Int.dvd_refl b)
    have h2 : (x + m - (y + m)) % b = 0 := by rw [Int.sub_emod, h, Int.sub_self, Int.zero_emod]
    rwa [show x + m - (y + m) = x - y by omega] at h2
  have h2 := Int.emod_emod_of_dvd (x - y) (Int.dvd_refl b)
  obtain ⟨k, hk⟩ := Int.dvd_of_emod_eq_zero h1
  have hb : 0 < b := by omega
  have hk0 : k = 0 := by
    rcases Int.lt_trichotomy k 0 with h | h | h
    · exfalso
      have : b * k ≤ b * (-1) := Int.mul_le_mul_of_nonneg_left (by omega) (by omega)
      omega
    · exact h
    · exfalso
      have : b * 1 ≤ b * k := Int.mul_le_mul_of_nonneg_left (by omega) (by omega)
      omega
  rw [hk0] at hk
  omega
theorem rot_mem {b m x : Int} {L : List Int} (hL : ∀ y ∈ L, 0 ≤ y ∧ y < b) (hx : 0 ≤ x ∧ x < b) : rotI b m x ∈ L.map (rotI b m) ↔ x ∈ L := by
  rw [List.mem_map]
  constructor
  · rintro ⟨y, hy, he⟩
    rw [← rot_inj (hL y hy) hx he]
    exact hy
  · intro h; exact ⟨x, h, rfl⟩
theorem goes_rot {b : Nat} {L : List Int} {d m : Int} {j : Nat} (hb : 0 < b) (hL : ∀ y ∈ L, 0 ≤ y ∧ y < (b : Int)) (h : Goes b L d j) : Goes b (L.map (rotI b m)) (rotI b m d) j := by
  have e : ∀ i : Nat, (rotI b m d + i) % (b : Int) = rotI b m ((d + i) % (b : Int)) := fun i => by
    unfold rotI
    rw [Int.emod_add_emod, Int.emod_add_emod]
    congr 1
    omega
  have hmod : ∀ z : Int, 0 ≤ z % (b : Int) ∧ z % (b : Int) < b := fun z => ⟨Int.emod_nonneg _ (by omega), Int.emod_lt_of_pos _ (by omega)⟩
  refine ⟨?_, fun i hi => ?_⟩
  · rw [e, rot_mem hL (hmod _)]; exact h.1
  · rw [e, rot_mem hL (hmod _)]; exact h.2 i hi
theorem runW_rot {b : Nat} {m : Int} (ds : List Int) : (∀ d ∈ ds, 0 ≤ d ∧ d < (b : Int)) → ds.length ≤ b → runW true (b : Int) (ds.map (rotI b m)) = ((runW true (b : Int) ds).1.map (rotI b m), (runW true (b : Int) ds).2) := by
  refine snoc_induction (p := fun ds => (∀ d ∈ ds, 0 ≤ d ∧ d < (b : Int)) → ds.length ≤ b → runW true (b : Int) (ds.map (rotI b m)) = ((runW true (b : Int) ds).1.map (rotI b m), (runW true (b : Int) ds).2)) (fun _ _ => rfl) (fun ds d ih hd hl => ?_) ds
  rw [List.length_append, List.length_singleton] at hl
  have h1 := ih (fun y hy => hd y (by simp [hy])) (by omega)
  have hr := lieW_range ds (fun y hy => hd y (by simp [hy])) (by omega)
  have hb : 0 < b := by omega
  have hdd := hd d (by simp)
  obtain ⟨j, g1, g2, g3⟩ := goes_ex (b := b) (L := (runW true (b : Int) ds).1) (d := d) (by rw [runW_len]; omega) hdd
  have hrd : 0 ≤ rotI (b : Int) m d ∧ rotI (b : Int) m d < b := ⟨Int.emod_nonneg _ (by omega), Int.emod_lt_of_pos _ (by omega)⟩
  obtain ⟨k, k1, k2, k3⟩ := goes_ex (b := b) (L := (runW true (b : Int) ds).1.map (rotI b m)) (d := rotI b m d) (by rw [List.length_map, runW_len]; omega) hrd
  have e : k = j := goes_one k1 (goes_rot hb hr g1)
  subst e
  rw [List.map_append, List.map_singleton, runW_snoc, runW_snoc, h1]
  simp only [stepW, if_true]
  rw [k2, k3, g2, g3, List.map_append, List.map_singleton]
  congr 3
  unfold rotI
  rw [Int.emod_add_emod, Int.emod_add_emod]
  congr 1
  omega

/-! ### A ledge, and a wheel with one place more -/
theorem slid1_wider {b : Nat} {L : List Int} : ∀ (f : Nat) (d : Int), ((b : Int) - d).toNat = f → d ≤ b → (slid1 (b : Int) L d < b → slid1 ((b : Int) + 1) L d = slid1 (b : Int) L d) ∧ (slid1 (b : Int) L d = b → slid1 ((b : Int) + 1) L d = slid1 ((b : Int) + 1) L b) := by
  intro f
  induction f with
  | zero =>
    intro d hf hd
    have : d = (b : Int) := by omega
    subst this
    exact ⟨fun h => by rw [slid1_stop (by omega)] at h; omega, fun _ => rfl⟩
  | succ f ih =>
    intro d hf hd
    by_cases hm : d < (b : Int) ∧ d ∈ L
    · have h := ih (d + 1) (by omega) (by omega)
      rw [slid1_go hm, slid1_go (places := (b : Int) + 1) ⟨by omega, hm.2⟩]
      exact h
    · rw [slid1_stop hm]
      refine ⟨fun h => slid1_stop (fun h2 => hm ⟨h, h2.2⟩), fun h => ?_⟩
      subst h
      rfl
theorem wheel_row {b : Nat} (ds : List Int) : (∀ d ∈ ds, 0 ≤ d ∧ d < (b : Int)) →
    (fellOf (b : Int) ds = 0 ∧ runW true ((b : Int) + 1) ds = runOf (b : Int) ds ∧ (b : Int) ∉ lieOf (b : Int) ds) ∨ (0 < fellOf (b : Int) ds ∧ (b : Int) ∈ (runW true ((b : Int) + 1) ds).1) := by
  refine snoc_induction (p := fun ds => (∀ d ∈ ds, 0 ≤ d ∧ d < (b : Int)) → (fellOf (b : Int) ds = 0 ∧ runW true ((b : Int) + 1) ds = runOf (b : Int) ds ∧ (b : Int) ∉ lieOf (b : Int) ds) ∨ (0 < fellOf (b : Int) ds ∧ (b : Int) ∈ (runW true ((b : Int) + 1) ds).1)) ?_ (fun ds d ih h => ?_) ds
  · intro _
    exact .inl ⟨fellOf_nil _, rfl, by simp [lieOf, runOf]⟩
  · have hd := h d (by simp)
    have hs := slid1_bd (places := (b : Int)) (L := lieOf (b : Int) ds) (at_ := d) (by omega)
    have hw := slid1_wider (b := b) (L := lieOf (b : Int) ds) _ d rfl (by omega)
    rw [fellOf_snoc hd]
    rcases ih (fun x hx => h x (by simp [hx])) with ⟨h1, h2, h3⟩ | ⟨h1, h2⟩
    · have eL : (runW true ((b : Int) + 1) ds).1 = lieOf (b : Int) ds := by rw [h2]; rfl
      rw [runW_snoc, runOf_snoc]
      by_cases hc : slid1 (b : Int) (lieOf (b : Int) ds) d = b
      · right
        refine ⟨by rw [if_pos hc]; omega, ?_⟩
        simp only [stepW, if_true, wlie, eL]
        rw [hw.2 hc, slid1_stop (fun h => h3 h.2), if_neg (by omega)]
        simp
      · left
        have e1 := hw.1 (by omega)
        refine ⟨by rw [if_neg hc]; omega, ?_, ?_⟩
        · rw [h2]
          simp only [stepW, if_true, step1, wlie, wfar, lie1]
          rw [show (runOf (b : Int) ds).1 = lieOf (b : Int) ds from rfl, e1, if_neg (by omega), if_neg (by omega), if_neg hc]
        · rw [lieOf_snoc, List.mem_append, List.mem_singleton]
          rintro (h | h)
          · exact h3 h
          · unfold lie1 at h
            rw [if_neg hc] at h
            exact hc h.symm
    · right
      refine ⟨by split <;> omega, ?_⟩
      rw [runW_snoc]
      simp only [stepW, if_true, List.mem_append]
      exact .inl h2
end Go.Proofs.Ytkeiajncmhkdmaa
