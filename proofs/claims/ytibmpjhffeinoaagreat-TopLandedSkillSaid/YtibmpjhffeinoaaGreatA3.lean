/-
  An executor, twelfth part: copy, clear, len, and the operations of one region, all but calls of functions.
  An executor, thirteenth part: one operation, all but calls of functions.
  An executor: an operation looks at its operands alone; operations that leave all as it is.
-/
import Derived.Test.YtibmpjhffeinoaaGreatA2
import Derived.Test.YtibmpjhffeinoaaGreatA1
namespace Go.Proofs.YtibmpjhffeinoaaGreat.Kx
open Go
variable [Val] [Bet]

noncomputable section
variable {β : Type} {E : Env} {P : Program} {φ : Phi} {h : AH} {w : World} {r : β}

def intOfNat (n : Nat) : AV := .int .i64 (.ofNat n)
def copyNK (d : β) (size nn : Nat) (a b : Option (Nat × Nat)) (h : AH) (k : AV → AH → β) : β := ite_ (Nat.beq nn 0) (k (.int .i64 (.ofNat 0)) h) (match a, b with
  | some (i, o), some (j, p) => loadK d h j p (Nat.mul nn size) fun xs => storeK d h i o xs fun h' => natK nn fun nn => k (.int .i64 (.ofNat nn)) h'
  | _, _ => d)
def copyK (d : β) (E : Env) (t : Nat) (x y : AV) (h : AH) (k : AV → AH → β) : β := sliceTK d E t fun e => tabK d E e fun te => match x, y with
  | .sl a n _, .sl b m _ => ite_ (Nat.ble m n) (copyNK d te.size m a b h k) (copyNK d te.size n a b h k)
  | _, _ => d
omit [Bet] in
/-- The address of a slice that is not empty. -/
theorem VR.addr {i o n : Nat} {c : ACap} {v : Value} (hx : VR φ (.sl (some (i, o)) n c) v) (hn : 0 < n) : ∃ (g : Nat) (d : Nat × Nat) (c' : Nat), φ i = some (g, d) ∧ v = .slice (some ⟨g, d.1 + o, none⟩) n c' := by
  cases hx with
  | sl _ _ g d _ c hp => exact ⟨g, d, c, hp, rfl⟩
  | slU _ _ g d _ c s a hp hc ha hz =>
    have := ha (by omega)
    subst this
    exact ⟨g, d, c, hp, rfl⟩
omit [Bet] in
theorem VR.sl_len {a : Option (Nat × Nat)} {n : Nat} {c : ACap} {v : Value} (hx : VR φ (.sl a n c) v) : ∃ A c', v = .slice A n c' ∧ (A = none ↔ a = none) := by
  cases hx <;> exact ⟨_, _, rfl, by simp⟩
theorem copyK_some (HT : TabOK E) (hR : R φ h w) {t u ty : Nat} {x y : AV} {xv yv : Value} {k : AV → AH → Option β} (hx : VR φ x xv) (hy : VR φ y yv) (he : copyK none E t x y h k = some r) : Good E.P (Builtin.copy_ #[t, u] ty #[xv, yv]) φ h w k r := by
  obtain ⟨e, hu, h1⟩ := sliceTK_some HT he
  obtain ⟨te, ie, de, ze, _, Te, h2⟩ := tabK_some HT h1
  split at h2
  · rename_i a n c1 b m c2
    have key : ∀ nn, nn = min m n → copyNK none te.size nn a b h k = some r → Good E.P (Builtin.copy_ #[t, u] ty #[xv, yv]) φ h w k r := by
      intro nn hnn h3
      unfold copyNK at h3
      rw [beq_dec] at h3
      obtain ⟨A, ca, rfl, hA⟩ := hx.sl_len
      obtain ⟨B, cb, rfl, hB⟩ := hy.sl_len
      have hmin : Nat.min m n = nn := hnn.symm
      by_cases h0 : nn = 0
      · rw [decide_eq_true h0, ite_true_] at h3
        subst h0
        refine good_same hR h3 (.int _ _) ?_
        have hsz := Te.run_size w
        cases A <;> cases B <;> simp [Builtin.copy_, run_underlying hu, Builtin.lenOf, hmin, hsz, Builtin.firstCells, loadCells, loadCellsFrom, storeCells, goInt]
      · rw [decide_eq_false h0, ite_false_] at h3
        split at h3
        · rename_i i o j p
          obtain ⟨g, d, c', hp, e1⟩ := hx.addr (by omega)
          obtain ⟨g2, d2, c2', hp2, e2⟩ := hy.addr (by omega)
          cases e1
          cases e2
          obtain ⟨xs, us, h4, h5, h6, h7, h8⟩ := loadK_some h3 hR hp2
          have hl : us.length = nn * te.size := by rw [← h6.length, h4]; rfl
          obtain ⟨h', w', h9, h10, h11, h12⟩ := storeK_some (P := E.P) h5 hR hp h6
          rw [natK_eq] at h9
          refine ⟨φ, h', w', _, _, h9, ?_, .int _ _, h11, h12⟩
          have hf := run_load_n (P := E.P) hl h7
          have hsz := Te.run_size w
          simp [Builtin.copy_, run_underlying hu, Builtin.lenOf, hmin, hsz, Builtin.firstCells, hf, h10, goInt]
        · cases h3
    rw [ble_dec] at h2
    by_cases hmn : m ≤ n
    · rw [decide_eq_true hmn, ite_true_] at h2
      exact key m (by omega) h2
    · rw [decide_eq_false hmn, ite_false_] at h2
      exact key n (by omega) h2
  · cases h2
def clearK (d : β) (E : Env) (t : Nat) (x : AV) (h : AH) (k : AV → AH → β) : β := sliceTK d E t fun e => tabK d E e fun te => match x with
  | .sl none _ _ => k (.tup []) h
  | .sl (some (i, o)) n _ => ite_ (Nat.beq n 0) (k (.tup []) h) (repK te.zero n fun zs => storeK d h i o zs fun h' => k (.tup []) h')
  | _ => d
theorem clearK_some (HT : TabOK E) (hR : R φ h w) {t ty : Nat} {x : AV} {xv : Value} {k : AV → AH → Option β} (hx : VR φ x xv) (he : clearK none E t x h k = some r) : Good E.P (Builtin.clear_ #[t] ty #[xv]) φ h w k r := by
  obtain ⟨e, hu, h1⟩ := sliceTK_some HT he
  obtain ⟨te, ie, de, ze, _, Te, h2⟩ := tabK_some HT h1
  split at h2
  · obtain ⟨A, c, rfl, hA⟩ := hx.sl_len
    have : A = none := hA.2 rfl
    subst this
    exact good_same hR h2 (.tup _ #[] .nil) (by simp [Builtin.clear_, run_underlying hu])
  · rename_i i o n c
    rw [beq_dec] at h2
    by_cases h0 : n = 0
    · rw [decide_eq_true h0, ite_true_] at h2
      subst h0
      obtain ⟨A, c, rfl, hA⟩ := hx.sl_len
      refine good_same hR h2 (.tup _ #[] .nil) ?_
      cases A <;> simp [Builtin.clear_, run_underlying hu]
    · rw [decide_eq_false h0, ite_false_, repK_eq] at h2
      obtain ⟨g, d, c', hp, rfl⟩ := hx.addr (by omega)
      have hz := Te.zs.ext (phi0_ext φ)
      have hm := made_VRs hz n
      obtain ⟨h', w', h3, h4, h5, h6⟩ := storeK_some (P := E.P) h2 hR hp hm
      refine ⟨φ, h', w', _, .tuple #[], h3, ?_, .tup _ #[] .nil, h5, h6⟩
      have hzc : Builtin.zeroCells ze.cells n = madeCells ze.cells (n * ze.cells.size) := rfl
      obtain ⟨q, rfl⟩ : ∃ q, n = q + 1 := ⟨n - 1, by omega⟩
      simp [Builtin.clear_, run_underlying hu, Te.run_zero, hzc, h4]
  · cases h2
def lenOpK (d : β) (E : Env) (t : Nat) (x : AV) (h : AH) (k : AV → β) : β := tabK d E t fun ti => match ti.d, x with
  | .slice _, .sl _ n _ => k (.int .i64 (.ofNat n))
  | .slice _, .exS _ c ts => outK d .i64 c ts k
  | .map _ _, .mp none => k (.int .i64 (.ofNat 0))
  | .map _ _, .mp (some i) => mapK d h i fun _ es _ => lenEK es fun n => k (.int .i64 (.ofNat n))
  | _, _ => d
theorem lenOpK_some (HT : TabOK E) (hR : R φ h w) {t ty : Nat} {x : AV} {xv : Value} {k : AV → Option β} (hx : VR φ x xv) (he : lenOpK none E t x h k = some r) : GoodV E.P (Builtin.len_ #[t] ty #[xv]) φ w k r := by
  obtain ⟨ti, inf, dsc, z, _, T, h1⟩ := tabK_some HT he
  have hdesc := T.desc
  split at h1
  · rename_i e a n c hd
    rw [hd] at hdesc
    have hdesc : dsc = _ := hdesc
    subst hdesc
    obtain ⟨A, c', rfl, _⟩ := hx.sl_len
    exact goodV_of h1 (.int _ _) (by simp [Builtin.len_, run_underlying T.under, goInt])
  · rename_i e i0 c us hd
    rw [hd] at hdesc
    have hdesc : dsc = _ := hdesc
    subst hdesc
    cases hx with
    | exS _ _ _ A n m hi hn hb =>
      obtain ⟨z, e1, e2, e3⟩ := outK_some (φ := φ) hb hn h1
      rw [e3] at e2
      exact goodV_of e1 e2 (by simp [Builtin.len_, run_underlying T.under, goInt])
  · rename_i kt et hd
    rw [hd] at hdesc
    have hdesc : dsc = _ := hdesc
    subst hdesc
    cases hx
    exact goodV_of h1 (.int _ _) (by simp [Builtin.len_, run_underlying T.under, goInt])
  · rename_i kt et i hd
    rw [hd] at hdesc
    have hdesc : dsc = _ := hdesc
    subst hdesc
    cases hx with
    | mp _ g d hp =>
      obtain ⟨n, es, cl, ces, h2, h3, h4, h5, _, _⟩ := mapK_some hR hp h1
      rw [lenEK_eq] at h3
      refine goodV_of h3 (.int _ _) ?_
      have hl : ces.size = es.length := by rw [h5.length, Array.length_toList]
      simp [Builtin.len_, run_underlying T.under, goInt, run_getObj_map h4, hl]
  · cases h1
def capOpK (d : β) (E : Env) (t : Nat) (x : AV) (k : AV → β) : β := sliceTK d E t fun _ => match x with
  | .sl _ _ (.k c) => k (.int .i64 (.ofNat c))
  | _ => d
theorem capOpK_some (HT : TabOK E) (_hR : R φ h w) {t ty : Nat} {x : AV} {xv : Value} {k : AV → Option β} (hx : VR φ x xv) (he : capOpK none E t x k = some r) : GoodV E.P (Builtin.cap_ #[t] ty #[xv]) φ w k r := by
  obtain ⟨e, hu, h1⟩ := sliceTK_some HT he
  split at h1
  · cases hx <;> exact goodV_of h1 (.int _ _) (by simp [Builtin.cap_, run_underlying hu, goInt])
  · cases h1
/-- Two flat values are the same. -/
def eqO (a b : Option (Nat × Nat)) : Bool := match a, b with
  | none, none => true
  | some (i, o), some (j, p) => ite_ (Nat.beq i j) (Nat.beq o p) false
  | _, _ => false
def sameB (a b : Bool) : Bool := match a, b with
  | true, true => true
  | false, false => true
  | _, _ => false
def eqT (ts : LT) : LT → Bool := List.rec (motive := fun _ => LT → Bool) (fun us => List.rec true (fun _ _ _ => false) us) (fun t _ ih us => List.rec (motive := fun _ => Bool) false (fun u us _ => ite_ (eqB t.1 u.1) (ite_ (eqB t.2.1 u.2.1) (ite_ (eqB t.2.2 u.2.2) (ih us) false) false) false) us) ts
def eqF (x y : AV) : Bool := match x, y with
  | .int k a, .int l b => ite_ (kindB k l) (eqB a b) false
  | .lin k a ts, .lin l b us => ite_ (kindB k l) (ite_ (eqB a b) (eqT ts us) false) false
  | .bool a, .bool b => sameB a b
  | .ptr a, .ptr b => eqO a b
  | .sl a n (.k c), .sl b m (.k d) => ite_ (eqO a b) (ite_ (Nat.beq n m) (Nat.beq c d) false) false
  | .sl a n (.u c), .sl b m (.u d) => ite_ (eqO a b) (ite_ (Nat.beq n m) (Nat.beq c d) false) false
  | .mp none, .mp none => true
  | .mp (some a), .mp (some b) => Nat.beq a b
  | .exS i a ts, .exS j b us => ite_ (Nat.beq i j) (ite_ (eqB a b) (eqT ts us) false) false
  | _, _ => false
omit [Val] [Bet] in
theorem beq_true' {a b : Nat} (h : Nat.beq a b = true) : a = b := Nat.eq_of_beq_eq_true h
omit [Val] [Bet] in
theorem ite_and {a b : Bool} (h : ite_ a b false = true) : a = true ∧ b = true := by
  cases a with
  | false => cases h
  | true => exact ⟨rfl, h⟩
omit [Val] [Bet] in
theorem eqO_true {a b : Option (Nat × Nat)} (h : eqO a b = true) : a = b := by
  unfold eqO at h
  split at h
  · rfl
  · obtain ⟨h1, h2⟩ := ite_and h
    rw [beq_true' h1, beq_true' h2]
  · cases h
omit [Val] [Bet] in
theorem eqB_true {a b : Int} (h : eqB a b = true) : a = b := by
  rw [eqB_eq] at h
  simpa using h
omit [Val] [Bet] in
theorem eqT_true (ts : LT) : ∀ {us : LT}, eqT ts us = true → ts = us := by
  induction ts with
  | nil => intro us h; cases us with
    | nil => rfl
    | cons => cases h
  | cons t ts ih =>
    intro us h
    cases us with
    | nil => cases h
    | cons u us =>
      have h' : ite_ (eqB t.1 u.1) (ite_ (eqB t.2.1 u.2.1) (ite_ (eqB t.2.2 u.2.2) (eqT ts us) false) false) false = true := h
      obtain ⟨h1, h2⟩ := ite_and h'
      obtain ⟨h3, h4⟩ := ite_and h2
      obtain ⟨h5, h6⟩ := ite_and h4
      obtain ⟨t1, t2, t3⟩ := t
      obtain ⟨u1, u2, u3⟩ := u
      have e1 := eqB_true h1
      have e2 := eqB_true h3
      have e3 := eqB_true h5
      simp only at e1 e2 e3
      rw [e1, e2, e3, ih h6]
omit [Val] [Bet] in
theorem eqF_true {x y : AV} (h : eqF x y = true) : x = y := by
  unfold eqF at h
  split at h
  · obtain ⟨h1, h2⟩ := ite_and h
    rw [kindB_eq h1]
    rw [eqB_eq] at h2
    simp at h2
    rw [h2]
  · obtain ⟨h1, h2⟩ := ite_and h
    obtain ⟨h3, h4⟩ := ite_and h2
    rw [kindB_eq h1, eqB_true h3, eqT_true _ h4]
  · rename_i a b
    cases a <;> cases b <;> first | rfl | cases h
  · rw [eqO_true h]
  · obtain ⟨h1, h2⟩ := ite_and h
    obtain ⟨h3, h4⟩ := ite_and h2
    rw [eqO_true h1, beq_true' h3, beq_true' h4]
  · obtain ⟨h1, h2⟩ := ite_and h
    obtain ⟨h3, h4⟩ := ite_and h2
    rw [eqO_true h1, beq_true' h3, beq_true' h4]
  · rfl
  · rw [beq_true' h]
  · obtain ⟨h1, h2⟩ := ite_and h
    obtain ⟨h3, h4⟩ := ite_and h2
    rw [beq_true' h1, eqB_true h3, eqT_true _ h4]
  · cases h
/-- A result that is known: the first entry for the operation and the two values. -/
def orcK (l : List (Nat × AV × AV × AV)) (c : Nat) (x y : AV) (yes : AV → β) (no : β) : β := List.rec no (fun e _ ih => ite_ (Nat.beq e.1 c) (ite_ (eqF e.2.1 x) (ite_ (eqF e.2.2.1 y) (yes e.2.2.2) ih) ih) ih) l
omit [Val] [Bet] in
theorem orcK_some (l : List (Nat × AV × AV × AV)) {c : Nat} {x y : AV} {yes : AV → Option β} {no : Option β} (he : orcK l c x y yes no = some r) : (∃ z, (c, x, y, z) ∈ l ∧ yes z = some r) ∨ no = some r := by
  induction l with
  | nil => exact .inr he
  | cons e l ih =>
    have he' : ite_ (Nat.beq e.1 c) (ite_ (eqF e.2.1 x) (ite_ (eqF e.2.2.1 y) (yes e.2.2.2) (orcK l c x y yes no)) (orcK l c x y yes no)) (orcK l c x y yes no) = some r := he
    have go : orcK l c x y yes no = some r → (∃ z, (c, x, y, z) ∈ e :: l ∧ yes z = some r) ∨ no = some r := fun h => (ih h).elim (fun ⟨z, h1, h2⟩ => .inl ⟨z, List.mem_cons_of_mem _ h1, h2⟩) .inr
    cases h1 : Nat.beq e.1 c with
    | false => rw [h1] at he'; exact go he'
    | true =>
      rw [h1, ite_true_] at he'
      cases h2 : eqF e.2.1 x with
      | false => rw [h2] at he'; exact go he'
      | true =>
        rw [h2, ite_true_] at he'
        cases h3 : eqF e.2.2.1 y with
        | false => rw [h3] at he'; exact go he'
        | true =>
          rw [h3, ite_true_] at he'
          obtain ⟨e1, e2, e3, e4⟩ := e
          have q1 : e1 = c := beq_true' h1
          have q2 : e2 = x := eqF_true h2
          have q3 : e3 = y := eqF_true h3
          subst q1
          subst q2
          subst q3
          exact .inl ⟨_, List.mem_cons_self, he'⟩
def linP (x : AV) : Bool := match x with
  | .lin _ _ _ => true
  | _ => false
def orcS (l : List (Nat × AV × AV × AV)) (c : Nat) (x y : AV) (yes : AV → β) (no : β) : β := ite_ (linP x) (orcK l c x y yes no) (ite_ (linP y) (orcK l c x y yes no) no)
omit [Val] [Bet] in
theorem orcS_some (l : List (Nat × AV × AV × AV)) {c : Nat} {x y : AV} {yes : AV → Option β} {no : Option β} (he : orcS l c x y yes no = some r) : (∃ z, (c, x, y, z) ∈ l ∧ yes z = some r) ∨ no = some r := by
  unfold orcS at he
  cases h1 : linP x with
  | true => rw [h1] at he; exact orcK_some l he
  | false =>
    rw [h1, ite_false_] at he
    cases h2 : linP y with
    | true => rw [h2] at he; exact orcK_some l he
    | false => rw [h2] at he; exact .inr he
def minMaxK (d : β) (mx : Bool) (x y : AV) (k : AV → β) : β := match x, y with
  | .int kx a, .int _ b => ite_ (Bool.rec (ltB b a) (ltB a b) mx) (k (.int kx b)) (k (.int kx a))
  | x, y => formK d x fun kx c ts => formK d y fun ky c' us => ite_ (kindB kx ky) (Bool.rec (subLT c' us c ts fun n vs => ltzK d n vs fun b => ite_ b (k y) (k x)) (subLT c ts c' us fun n vs => ltzK d n vs fun b => ite_ b (k y) (k x)) mx) d
theorem minK_some (_hR : R φ h w) {ts : Array TypeId} {ty : Nat} {x y : AV} {xv yv : Value} {k : AV → Option β} (hx : VR φ x xv) (hy : VR φ y yv) (he : minMaxK none false x y k = some r) : GoodV P (Builtin.min_ ts ty #[xv, yv]) φ w k r := by
  unfold minMaxK at he
  split at he
  · rename_i kx a ky b
    cases hx
    cases hy
    have he : ite_ (ltB b a) (k (.int kx b)) (k (.int kx a)) = some r := he
    rw [ltB_eq] at he
    by_cases hab : b < a
    · rw [decide_eq_true hab, ite_true_] at he
      exact goodV_of he (.int _ _) (by simp [Builtin.min_, Builtin.min2, hab])
    · rw [decide_eq_false hab, ite_false_] at he
      exact goodV_of he (.int _ _) (by simp [Builtin.min_, Builtin.min2, hab])
  · obtain ⟨kx, c, ts, a, h1, e1, e2, e3⟩ := formK_some hx he
    obtain ⟨ky, c', us, b, h2, e4, e5, e6⟩ := formK_some hy h1
    cases hk : kindB kx ky with
    | false => rw [hk] at h2; cases h2
    | true =>
      have hk' := kindB_eq hk
      subst hk'
      rw [hk, ite_true_] at h2
      have h2 : (subLT c' us c ts fun n vs => ltzK none n vs fun b => ite_ b (k _) (k _)) = some r := h2
      rw [subLT_eq] at h2
      have h3 := ltzK_some (n := b - a) (sub_B e6 e3) (by rw [sub_S, e2, e5]) h2
      subst e1
      subst e4
      by_cases hab : b < a
      · rw [decide_eq_true (by omega), ite_true_] at h3
        exact goodV_of h3 hy (by simp [Builtin.min_, Builtin.min2, hab])
      · rw [decide_eq_false (by omega), ite_false_] at h3
        exact goodV_of h3 hx (by simp [Builtin.min_, Builtin.min2, hab])
theorem maxK_some (_hR : R φ h w) {ts : Array TypeId} {ty : Nat} {x y : AV} {xv yv : Value} {k : AV → Option β} (hx : VR φ x xv) (hy : VR φ y yv) (he : minMaxK none true x y k = some r) : GoodV P (Builtin.max_ ts ty #[xv, yv]) φ w k r := by
  unfold minMaxK at he
  split at he
  · rename_i kx a ky b
    cases hx
    cases hy
    have he : ite_ (ltB a b) (k (.int kx b)) (k (.int kx a)) = some r := he
    rw [ltB_eq] at he
    by_cases hab : a < b
    · rw [decide_eq_true hab, ite_true_] at he
      have hgt : b > a := hab
      exact goodV_of he (.int _ _) (by simp [Builtin.max_, Builtin.max2, hab])
    · rw [decide_eq_false hab, ite_false_] at he
      exact goodV_of he (.int _ _) (by simp [Builtin.max_, Builtin.max2, hab])
  · obtain ⟨kx, c, ts, a, h1, e1, e2, e3⟩ := formK_some hx he
    obtain ⟨ky, c', us, b, h2, e4, e5, e6⟩ := formK_some hy h1
    cases hk : kindB kx ky with
    | false => rw [hk] at h2; cases h2
    | true =>
      have hk' := kindB_eq hk
      subst hk'
      rw [hk, ite_true_] at h2
      have h2 : (subLT c ts c' us fun n vs => ltzK none n vs fun b => ite_ b (k _) (k _)) = some r := h2
      rw [subLT_eq] at h2
      have h3 := ltzK_some (n := a - b) (sub_B e3 e6) (by rw [sub_S, e2, e5]) h2
      subst e1
      subst e4
      by_cases hab : a < b
      · rw [decide_eq_true (by omega), ite_true_] at h3
        have hgt : b > a := hab
        exact goodV_of h3 hy (by simp [Builtin.max_, Builtin.max2, hgt])
      · rw [decide_eq_false (by omega), ite_false_] at h3
        have hgt : ¬ b > a := hab
        exact goodV_of h3 hx (by simp [Builtin.max_, Builtin.max2, hgt])

/-! ### Values -/
def extractK (d : β) (x : AV) (n : Nat) (k : AV → β) : β := match x with
  | .tup xs => skipK d n xs fun ys => match ys with
    | y :: _ => k y
    | [] => d
  | _ => d
theorem extractK_some (_hR : R φ h w) {x : AV} {xv : Value} {n : Nat} {k : AV → Option β} (hx : VR φ x xv) (he : extractK none x n k = some r) : GoodV P (Instr.extract xv n) φ w k r := by
  unfold extractK at he
  split at he
  · rename_i xs
    cases hx with
    | tup _ us hus =>
      obtain ⟨h1, h2⟩ := skipK_some n he
      split at h2
      · rename_i y ys hys
        have hy : xs[n]? = some y := by
          have := congrArg (fun l => l[0]?) hys
          simpa using this
        obtain ⟨v, h3, h4⟩ := hus.get hy
        have h3' : us[n]? = some v := by simpa using h3
        exact goodV_of h2 h4 (by simp [Instr.extract, h3'])
      · cases h2
  · cases he
def unOpK (d : β) (op : UnOp) (x : AV) (k : AV → β) : β := match op, x with
  | .not, .bool b => boolK (notB b) fun b => k (.bool b)
  | .neg, .int kd n => wrapK kd (Int.sub 0 n) fun z => k (.int kd z)
  | .neg, .lin kd c ts => mulT (.negSucc 0) ts fun us => intK (Int.sub 0 c) fun n => outK d kd n us k
  | _, _ => d
theorem unOpK_some (_hR : R φ h w) {op : UnOp} {x : AV} {xv : Value} {k : AV → Option β} (hx : VR φ x xv) (he : unOpK none op x k = some r) : GoodV P (Op.unary op xv) φ w k r := by
  unfold unOpK at he
  split at he
  · cases hx
    rw [boolK_eq, notB_eq] at he
    exact goodV_of he (.bool _) (by simp [Op.unary])
  · cases hx
    rw [wrapK_eq] at he
    refine goodV_of he (.int _ _) ?_
    simp [Op.unary, Op.intArith]
    rw [show ∀ n : Int, Int.sub 0 n = -n from fun n => Int.zero_sub n]
  · rename_i kd c ts
    cases hx with
    | lin _ _ _ n hn hb =>
      rw [mulT_eq, intK_eq] at he
      obtain ⟨z, e1, e2, _⟩ := outK_some (φ := φ) (n := -n) (mulL_B _ _ _ hb) (by rw [mulL_S, hn]; show _ = (0 - c) + (-1) * _; omega) he
      exact goodV_of e1 e2 (by simp [Op.unary, Op.intArith])
  · cases he
def convertK (d : β) (E : Env) (s t : Nat) (x : AV) (k : AV → β) : β := tabK d E s fun _ => tabK d E t fun ti => match ti.d, x with
  | .int kd, .int _ n => wrapK kd n fun z => k (.int kd z)
  | .int kd, .lin _ c ts => outK d kd c ts k
  | _, _ => d
theorem convertK_some (HT : TabOK E) (_hR : R φ h w) {s t : Nat} {x : AV} {xv : Value} {k : AV → Option β} (hx : VR φ x xv) (he : convertK none E s t x k = some r) : GoodV E.P (convert s t xv) φ w k r := by
  obtain ⟨ts, is, ds, zs, _, Ts, h1⟩ := tabK_some HT he
  obtain ⟨ti, i, dsc, z, _, T, h2⟩ := tabK_some HT h1
  have hdesc := T.desc
  split at h2
  · rename_i kd k0 n hd
    rw [hd] at hdesc
    have hdesc : dsc = _ := hdesc
    subst hdesc
    cases hx
    rw [wrapK_eq] at h2
    refine goodV_of h2 (.int _ _) ?_
    unfold convert
    simp only [Sem.run_bind, run_underlying Ts.under, run_underlying T.under, Result.andThen]
    cases ds <;> simp [Conv.intToInt]
  · rename_i kd k0 c us hd
    rw [hd] at hdesc
    have hdesc : dsc = _ := hdesc
    subst hdesc
    cases hx with
    | lin _ _ _ n hn hb =>
      obtain ⟨z, e1, e2, _⟩ := outK_some (φ := φ) hb hn h2
      refine goodV_of e1 e2 ?_
      unfold convert
      simp only [Sem.run_bind, run_underlying Ts.under, run_underlying T.under, Result.andThen]
      cases ds <;> simp [Conv.intToInt]
  · cases h2
def aggEqK (d : β) (E : Env) (t : Nat) (x y : AV) (neg : Bool) (k : AV → β) : β := keyK d E t x fun a => keyK d E t y fun b => boolK (Bool.rec (keyEq a b) (notB (keyEq a b)) neg) fun b => k (.bool b)
def linIn (xs : List AV) : Bool := List.rec false (fun x _ ih => match x with
  | .lin _ _ _ => true
  | _ => ih) xs
def aggLinK (d : β) (E : Env) (t : Nat) (a b : List AV) (neg : Bool) (k : AV → β) : β := getK d E.eqs t fun n => lenK a fun m => ite_ (Nat.beq m n) (lenK b fun m => ite_ (Nat.beq m n) (ite_ (allB wfB a) (ite_ (allB wfB b) (leqsK d a b fun c => boolK (Bool.rec c (notB c) neg) fun c => k (.bool c)) d) d) d) d
omit [Val] [Bet] in
theorem ite_none {b : Bool} {x : Option β} {r : β} (h : ite_ b x none = some r) : b = true ∧ x = some r := by
  cases b with
  | false => cases h
  | true => exact ⟨rfl, h⟩
omit [Bet] in
theorem aggLinK_some (HK : KeysOK E) {t : Nat} {a b : List AV} {xv yv : Value} {neg : Bool} {k : AV → Option β} (hx : VR φ (.agg a) xv) (hy : VR φ (.agg b) yv) (he : aggLinK none E t a b neg k = some r) :
    ∃ u v n, xv = .agg u ∧ yv = .agg v ∧ KeyOK E.P t n ∧ ∃ c : Bool, (Op.equal t xv yv).run E.P w = .ok c w ∧ k (.bool (if neg then !c else c)) = some r := by
  obtain ⟨n, h1, h2⟩ := getK_some he
  rw [lenK_eq] at h2
  obtain ⟨h3, h4⟩ := ite_none h2
  rw [lenK_eq] at h4
  obtain ⟨h5, h6⟩ := ite_none h4
  obtain ⟨h7, h8⟩ := ite_none h6
  obtain ⟨h9, h10⟩ := ite_none h8
  have hl : a.length = n := Nat.eq_of_beq_eq_true h3
  have hl' : b.length = n := Nat.eq_of_beq_eq_true h5
  cases hx with
  | agg _ us hus =>
    cases hy with
    | agg _ vs hvs =>
      obtain ⟨ka, e1, e2⟩ := wfBs_true a hus h7
      obtain ⟨kb, e3, e4⟩ := wfBs_true b hvs h9
      have l1 := hus.length
      have l2 := hvs.length
      rw [e1] at hus l1
      rw [e3] at hvs l2
      rw [List.length_map] at l1 l2
      have q1 : us = intsV ka := Array.ext' (by rw [e1]; simp [intsV])
      have q2 : vs = intsV kb := Array.ext' (by rw [e3]; simp [intsV])
      have h11 := leqsK_some (k := fun c => boolK (Bool.rec c (notB c) neg) fun c => k (.bool c)) a hus hvs h10
      rw [boolK_eq] at h11
      refine ⟨_, _, n, rfl, rfl, HK _ _ h1, decide (ka = kb), ?_, ?_⟩
      · rw [q1, q2]; exact (HK _ _ h1).equal w (by omega) (by omega) e2 e4
      · rw [← h11]
        cases neg with
        | true => show k (.bool (!decide (ka = kb))) = k (.bool (notB (decide (ka = kb)))); rw [notB_eq]
        | false => rfl
def isNoneB (a : Option (Nat × Nat)) : Bool := Option.rec true (fun _ => false) a
def boolTK (d : β) (E : Env) (t : Nat) (k : β) : β := tabK d E t fun ti => match ti.d with
  | .bool => k
  | _ => d
omit [Bet] in
theorem boolTK_some (HT : TabOK E) {t : Nat} {k : Option β} (he : boolTK none E t k = some r) : E.P.underlying t = some .bool ∧ k = some r := by
  obtain ⟨ti, i, dsc, z, _, T, h2⟩ := tabK_some HT he
  have h3 := T.desc
  split at h2
  · rename_i hd
    rw [hd] at h3
    have h3 : dsc = _ := h3
    subst h3
    exact ⟨T.under, h2⟩
  · cases h2
omit [Val] [Bet] in
theorem run_equalIn_bool (w : World) (d : Nat) (t : TypeId) (a b : Bool) (hu : P.underlying t = some .bool) : (Op.equalIn (d + 1) t (.bool a) (.bool b)).run P w = .ok (a == b) w := by simp [Op.equalIn, run_underlying hu]
omit [Val] [Bet] in
theorem run_equal_bool (w : World) (t : TypeId) (a b : Bool) (hu : P.underlying t = some .bool) : (Op.equal t (.bool a) (.bool b)).run P w = .ok (a == b) w := run_equalIn_bool w 9999 t a b hu
def binOpK (d : β) (E : Env) (op : BinOp) (t : Nat) (x y : AV) (k : AV → β) : β := match x, y with
  | .int kx a, .int ky b => match op with
    | .shl => shiftK d .shl kx a b k
    | .shr => shiftK d .shr kx a b k
    | op => ite_ (kindB kx ky) (intOpK d op kx a b k) d
  | .agg a, .agg b => match op with
    | .eql => ite_ (linIn a) (aggLinK d E t a b false k) (aggEqK d E t (.agg a) (.agg b) false k)
    | .neq => ite_ (linIn a) (aggLinK d E t a b true k) (aggEqK d E t (.agg a) (.agg b) true k)
    | _ => d
  | .bool a, .bool b => match op with
    | .eql => boolTK d E t (boolK (Bool.rec (notB b) b a) fun c => k (.bool c))
    | .neq => boolTK d E t (boolK (Bool.rec b (notB b) a) fun c => k (.bool c))
    | _ => d
  | .sl a _ _, .sl none _ _ => match op with
    | .eql => sliceTK d E t fun _ => boolK (isNoneB a) fun b => k (.bool b)
    | .neq => sliceTK d E t fun _ => boolK (notB (isNoneB a)) fun b => k (.bool b)
    | _ => d
  | .lin kx c ts, y => formK d y fun ky c' us => ite_ (kindB kx ky) (linOpK d op kx c ts c' us k) d
  | .int kx a, .lin ky c us => ite_ (kindB kx ky) (linOpK d op kx a [] c us k) d
  | _, _ => d
omit [Val] [Bet] in
theorem run_eqGuard_plain {op : BinOp} {t : TypeId} {o1 o2 : Operand} {a b : Value} (h : match a with | .int _ _ | .slice _ _ _ | .bool _ => True | _ => False) : (eqGuard op t o1 o2 a b).run P w = .ok () w := by
  unfold eqGuard
  cases a <;> simp only at h
  all_goals (cases op <;> simp)
omit [Val] [Bet] in
theorem run_eqGuard_agg {op : BinOp} {t n : TypeId} {o1 o2 : Operand} {a b : Array Value} (K : KeyOK P t n) : (eqGuard op t o1 o2 (.agg a) (.agg b)).run P w = .ok () w := by
  unfold eqGuard
  have := K.noguard
  cases op <;> simp [program, Sem.run, this]
theorem binOpK_some (HT : TabOK E) (HK : KeysOK E) (_hR : R φ h w) {op : BinOp} {t : Nat} {o1 o2 : Operand} {x y : AV} {xv yv : Value} {k : AV → Option β} (hx : VR φ x xv) (hy : VR φ y yv) (he : binOpK none E op t x y k = some r) :
    GoodV E.P (do eqGuard op t o1 o2 xv yv; binOp op t xv yv) φ w k r := by
  unfold binOpK at he
  split at he
  · rename_i kx a ky b
    cases hx
    cases hy
    have hg := run_eqGuard_plain (P := E.P) (w := w) (op := op) (t := t) (o1 := o1) (o2 := o2) (a := .int kx a) (b := .int ky b) trivial
    have fin : (∃ z v, k z = some r ∧ VR φ z v ∧ (binOp op t (.int kx a) (.int ky b)).run E.P w = .ok v w) → GoodV E.P (do eqGuard op t o1 o2 (.int kx a) (.int ky b); binOp op t (.int kx a) (.int ky b)) φ w k r := by
      rintro ⟨z, v, h1, h2, h3⟩
      exact goodV_of h1 h2 (by rw [Sem.run_bind, hg]; exact h3)
    split at he
    · exact fin (shiftK_some he)
    · exact fin (shiftK_some he)
    · cases hk : kindB kx ky with
      | false => rw [hk] at he; cases he
      | true =>
        rw [hk, ite_true_] at he
        have := kindB_eq hk
        subst this
        exact fin (intOpK_some he)
  · rename_i a b
    have agg : ∀ (neg : Bool), aggEqK none E t (.agg a) (.agg b) neg k = some r → ∃ u v n, xv = .agg u ∧ yv = .agg v ∧ KeyOK E.P t n ∧ ∃ c : Bool, (Op.equal t xv yv).run E.P w = .ok c w ∧ k (.bool (if neg then !c else c)) = some r := by
      intro neg h1
      obtain ⟨ka, n, h2, h3, K, hl, hwf⟩ := keyK_some HK h1 hx
      obtain ⟨kb, n', h4, h5, K', hl', hwf'⟩ := keyK_some HK h2 hy
      rw [boolK_eq] at h4
      have hnn : n = n' := by
        -- both lengths are the table's
        obtain ⟨m1, e1, _⟩ := getK_some h1
        obtain ⟨m2, e2, h6⟩ := getK_some h1
        obtain ⟨q1, f1, g1, _⟩ := intsK_some a h6
        obtain ⟨m3, e3, h7⟩ := getK_some h2
        obtain ⟨q2, f2, g2, _⟩ := intsK_some b h7
        have b1 : lenIB q1 m2 = true := by cases hb : lenIB q1 m2 with
          | true => rfl
          | false => rw [hb] at f1; cases f1
        have b2 : lenIB q2 m3 = true := by cases hb : lenIB q2 m3 with
          | true => rfl
          | false => rw [hb] at f2; cases f2
        rw [e2] at e3
        cases e3
        have l1 := lenIB_eq q1 _ b1
        have l2 := lenIB_eq q2 _ b2
        have la : a.length = q1.length := by rw [g1]; simp
        have lb : b.length = q2.length := by rw [g2]; simp
        have c1 : ka.length = a.length := by
          subst h3
          cases hx with
          | agg _ us hus => have := hus.length; simp [intsV] at this; omega
        have c2 : kb.length = b.length := by
          subst h5
          cases hy with
          | agg _ us hus => have := hus.length; simp [intsV] at this; omega
        omega
      subst hnn
      refine ⟨_, _, n, h3, h5, K, decide (ka = kb), ?_, ?_⟩
      · rw [h3, h5]; exact K.equal w hl hl' hwf hwf'
      · rw [← h4]
        cases neg with
        | true => show k (.bool (!decide (ka = kb))) = k (.bool (notB (keyEq ka kb))); rw [notB_eq, keyEq_eq]
        | false => show k (.bool (decide (ka = kb))) = k (.bool (keyEq ka kb)); rw [keyEq_eq]
    have agg2 : ∀ (neg : Bool), ite_ (linIn a) (aggLinK none E t a b neg k) (aggEqK none E t (.agg a) (.agg b) neg k) = some r → ∃ u v n, xv = .agg u ∧ yv = .agg v ∧ KeyOK E.P t n ∧ ∃ c : Bool, (Op.equal t xv yv).run E.P w = .ok c w ∧ k (.bool (if neg then !c else c)) = some r := by
      intro neg h0
      cases hl : linIn a with
      | true => rw [hl, ite_true_] at h0; exact aggLinK_some HK hx hy h0
      | false => rw [hl, ite_false_] at h0; exact agg neg h0
    split at he
    · obtain ⟨u, v, n, rfl, rfl, K, c, h1, h2⟩ := agg2 false he
      refine goodV_of h2 (.bool _) ?_
      rw [Sem.run_bind, run_eqGuard_agg K]
      simp [Result.andThen, binOp, h1]
    · obtain ⟨u, v, n, rfl, rfl, K, c, h1, h2⟩ := agg2 true he
      refine goodV_of h2 (.bool _) ?_
      rw [Sem.run_bind, run_eqGuard_agg K]
      simp [Result.andThen, binOp, h1]
    · cases he
  · rename_i a b
    cases hx
    cases hy
    have hg := run_eqGuard_plain (P := E.P) (w := w) (op := op) (t := t) (o1 := o1) (o2 := o2) (a := .bool a) (b := .bool b) trivial
    split at he
    · obtain ⟨hu, h1⟩ := boolTK_some HT he
      rw [boolK_eq] at h1
      refine goodV_of h1 (.bool _) ?_
      rw [Sem.run_bind, hg]
      simp only [Result.andThen, binOp, Sem.run_bind, run_equal_bool _ _ _ _ hu]
      cases a <;> cases b <;> rfl
    · obtain ⟨hu, h1⟩ := boolTK_some HT he
      rw [boolK_eq] at h1
      refine goodV_of h1 (.bool _) ?_
      rw [Sem.run_bind, hg]
      simp only [Result.andThen, binOp, Sem.run_bind, run_equal_bool _ _ _ _ hu]
      cases a <;> cases b <;> rfl
    · cases he
  · rename_i a n c n' c'
    obtain ⟨A, ca, rfl, hA⟩ := hx.sl_len
    obtain ⟨B, cb, rfl, hB⟩ := hy.sl_len
    have hBn : B = none := hB.2 rfl
    subst hBn
    have hg := run_eqGuard_plain (P := E.P) (w := w) (op := op) (t := t) (o1 := o1) (o2 := o2) (a := .slice A n ca) (b := .slice none n' cb) trivial
    have hAn : A.isNone = isNoneB a := by
      cases A with
      | none => rw [hA.1 rfl]; rfl
      | some q => cases a with
        | none => exact absurd (hA.2 rfl) (by simp)
        | some p => rfl
    split at he
    · obtain ⟨e, hu, h1⟩ := sliceTK_some HT he
      rw [boolK_eq] at h1
      refine goodV_of h1 (.bool _) ?_
      rw [Sem.run_bind, hg]
      have := Lib.run_eql_slice_nil (P := E.P) w t e A n ca n' cb hu
      rw [hAn] at this
      exact this
    · obtain ⟨e, hu, h1⟩ := sliceTK_some HT he
      rw [boolK_eq, notB_eq] at h1
      refine goodV_of h1 (.bool _) ?_
      rw [Sem.run_bind, hg]
      have := Lib.run_equalIn_slice_nil (P := E.P) w 9999 t e A n ca n' cb hu
      simp only [Result.andThen, binOp]
      simp [Op.equal, Op.maxDepth, this, hAn]
    · cases he
  · rename_i kx c ts
    cases hx with
    | lin _ _ _ a hn hb =>
      obtain ⟨ky, c', us, b, h1, rfl, e5, e6⟩ := formK_some hy he
      cases hk : kindB kx ky with
      | false => rw [hk] at h1; cases h1
      | true =>
        have hk' := kindB_eq hk
        subst hk'
        rw [hk, ite_true_] at h1
        obtain ⟨z, v, h2, h3, h4⟩ := linOpK_some (P := E.P) (w := w) (φ := φ) (t := t) hb e6 hn e5 h1
        exact goodV_of h2 h3 (by rw [Sem.run_bind, run_eqGuard_plain trivial]; exact h4)
  · rename_i kx a ky c us
    cases hx
    cases hy with
    | lin _ _ _ b hn hb =>
      cases hk : kindB kx ky with
      | false => rw [hk] at he; cases he
      | true =>
        have hk' := kindB_eq hk
        subst hk'
        rw [hk, ite_true_] at he
        obtain ⟨z, v, h2, h3, h4⟩ := linOpK_some (P := E.P) (w := w) (φ := φ) (t := t) (ts := []) (x := a) trivial hb (by simp [linS]) hn he
        exact goodV_of h2 h3 (by rw [Sem.run_bind, run_eqGuard_plain trivial]; exact h4)
  · cases he
theorem orcBin_some (HT : TabOK E) (HK : KeysOK E) (hR : R φ h w) {op : BinOp} {t : Nat} {o1 o2 : Operand} {x y : AV} {xv yv : Value} {k : AV → Option β} (hx : VR φ x xv) (hy : VR φ y yv) (he : orcS E.orc (codeB op) x y k (binOpK none E op t x y k) = some r) :
    GoodV E.P (do eqGuard op t o1 o2 xv yv; binOp op t xv yv) φ w k r := by
  rcases orcS_some _ he with ⟨z, h1, h2⟩ | h1
  · obtain ⟨⟨kd, a, hu⟩, h3, _⟩ := HT.2 _ h1 φ xv yv hx hy
    obtain ⟨q, h4, h5⟩ := h3 op rfl
    refine goodV_of h2 h4 ?_
    rw [Sem.run_bind, run_eqGuard_plain (by rw [hu]; trivial)]
    exact h5 _ _ _
  · exact binOpK_some HT HK hR hx hy h1
theorem orcMin_some (HT : TabOK E) (hR : R φ h w) {ts : Array TypeId} {ty : Nat} {x y : AV} {xv yv : Value} {k : AV → Option β} (hx : VR φ x xv) (hy : VR φ y yv) (he : orcS E.orc 100 x y k (minMaxK none false x y k) = some r) : GoodV E.P (Builtin.min_ ts ty #[xv, yv]) φ w k r := by
  rcases orcS_some _ he with ⟨z, h1, h2⟩ | h1
  · obtain ⟨_, _, h3, _⟩ := HT.2 _ h1 φ xv yv hx hy
    obtain ⟨q, h4, h5⟩ := h3 rfl
    exact goodV_of h2 h4 (h5 _ _ _ _)
  · exact minK_some hR hx hy h1
theorem orcMax_some (HT : TabOK E) (hR : R φ h w) {ts : Array TypeId} {ty : Nat} {x y : AV} {xv yv : Value} {k : AV → Option β} (hx : VR φ x xv) (hy : VR φ y yv) (he : orcS E.orc 101 x y k (minMaxK none true x y k) = some r) : GoodV E.P (Builtin.max_ ts ty #[xv, yv]) φ w k r := by
  rcases orcS_some _ he with ⟨z, h1, h2⟩ | h1
  · obtain ⟨_, _, _, h3⟩ := HT.2 _ h1 φ xv yv hx hy
    obtain ⟨q, h4, h5⟩ := h3 rfl
    exact goodV_of h2 h4 (h5 _ _ _ _)
  · exact maxK_some hR hx hy h1
end
end Go.Proofs.YtibmpjhffeinoaaGreat.Kx

namespace Go.Proofs.YtibmpjhffeinoaaGreat.Kx
open Go
variable [Val] [Bet]

noncomputable section
variable {β : Type} {E : Env} {P : Program} {φ : Phi} {h : AH} {w : World} {r : β} {fr : AF} {a : Act}

def evalOK (d : β) (fr : AF) (o : Option Operand) (k : Option AV → β) : β := match o with
  | some o => evalK d fr o fun x => k (some x)
  | none => k none
omit [Bet] in
theorem evalOK_some {o : Option Operand} {k : Option AV → Option β} (he : evalOK none fr o k = some r) (hF : FR φ fr a.tmps) : ∃ x, k x = some r ∧ OVR φ x (o.map a.eval) := by
  cases o with
  | none => exact ⟨none, he, trivial⟩
  | some o => obtain ⟨x, h1, h2⟩ := evalK_some (k := fun x => k (some x)) he hF; exact ⟨some x, h1, h2⟩
def partsK (d : β) (fr : AF) (ps : List (Nat × Operand)) : (List (Nat × AV) → β) → β := List.rec (motive := fun _ => (List (Nat × AV) → β) → β) (fun k => k []) (fun p _ ih k => evalK d fr p.2 fun x => ih fun xs => k ((p.1, x) :: xs)) ps
omit [Bet] in
theorem partsK_some (ps : List (Nat × Operand)) : ∀ {k : List (Nat × AV) → Option β}, partsK none fr ps k = some r → FR φ fr a.tmps → ∃ xs, k xs = some r ∧ PRs φ xs (ps.map fun (i, x) => (i, a.eval x)) := by
  induction ps with
  | nil => intro k h _; exact ⟨[], h, trivial⟩
  | cons p ps ih =>
    intro k h hF
    obtain ⟨x, h1, h2⟩ := evalK_some (k := fun x => partsK none fr ps fun xs => k ((p.1, x) :: xs)) h hF
    obtain ⟨xs, h3, h4⟩ := ih h1 hF
    exact ⟨(p.1, x) :: xs, h3, rfl, h2, h4⟩
def builtinK (d : β) (E : Env) (b : Builtin) (ts : List TypeId) (xs : List AV) (h : AH) (k : AV → AH → β) : β := match b, ts, xs with
  | .append, [t, t'], [x, y] => appendAnyK d E t t' x y h k
  | .copy, [t, _], [x, y] => copyK d E t x y h k
  | .clear, [t], [x] => clearK d E t x h k
  | .len, [t], [x] => lenOpK d E t x h fun x => k x h
  | .cap, [t], [x] => capOpK d E t x fun x => k x h
  | .min, _, [x, y] => orcS E.orc 100 x y (fun z => k z h) (minMaxK d false x y fun x => k x h)
  | .max, _, [x, y] => orcS E.orc 101 x y (fun z => k z h) (minMaxK d true x y fun x => k x h)
  | .delete, [t, _], [x, y] => delMK d E t x y h k
  | _, _, _ => d
def pickOpK (d : β) (fr : AF) (c : AV) (x y : Operand) (k : AV → β) : β := match c with
  | .bool b => ite_ b (evalK d fr x k) (evalK d fr y k)
  | _ => d
def nilK (d : β) (x : AV) (k : AV → β) : β := match x with
  | .ptr (some p) => k (.ptr (some p))
  | .fn (.func f) xs ys => k (.fn (.func f) xs ys)
  | _ => d
def opK (d : β) (E : Env) (op : Op) (fr : AF) (h : AH) (k : AV → AH → β) : β := match op with
  | .move x => evalK d fr x fun x => k x h
  | .assign x => evalK d fr x fun x => k x h
  | .pick c x y => evalK d fr c fun c => pickOpK d fr c x y fun x => k x h
  | .alloc t => allocK d E t h k
  | .box _ x => evalK d fr x fun x => boxK d x h k
  | .build t ps => partsK d fr ps.toList fun ps => buildK d E t ps h k
  | .buildSlice t n ps => partsK d fr ps.toList fun ps => buildSliceK d E t n ps h k
  | .insert t m x y => evalK d fr m fun m => evalK d fr x fun x => evalK d fr y fun y => updK d E t m x y h fun h => k (.tup []) h
  | .mapUpdate t m x y => evalK d fr m fun m => evalK d fr x fun x => evalK d fr y fun y => updK d E t m x y h fun h => k (.tup []) h
  | .load t x => evalK d fr x fun x => loadOpK d E t x h k
  | .store t x y => evalK d fr x fun x => evalK d fr y fun y => storeOpK d E t x y h fun h => k (.tup []) h
  | .nilCheck x => evalK d fr x fun x => nilK d x fun x => k x h
  | .binOp op t x y _ => evalK d fr x fun x => evalK d fr y fun y => orcS E.orc (codeB op) x y (fun z => k z h) (binOpK d E op t x y fun x => k x h)
  | .unOp op _ x => evalK d fr x fun x => unOpK d op x fun x => k x h
  | .convert s t x => evalK d fr x fun x => convertK d E s t x fun x => k x h
  | .makeFunc (.func f) xs ys => evalsK d fr xs.toList fun xs => evalsK d fr ys.toList fun ys => k (.fn (.func f) xs ys) h
  | .makeMap t none => makeMapK d E t h k
  | .makeSlice t x y => evalK d fr x fun x => evalK d fr y fun y => makeSliceK d E t x y h k
  | .slice t x lo hi mx => evalK d fr x fun x => evalOK d fr lo fun lo => evalOK d fr hi fun hi => evalOK d fr mx fun mx => sliceK d E t x lo hi mx fun x => k x h
  | .fieldAddr t x f => evalK d fr x fun x => fieldAddrK d E t f x fun x => k x h
  | .indexAddr t x y => evalK d fr x fun x => evalK d fr y fun y => indexAddrK d E t x y fun x => k x h
  | .index t x y => evalK d fr x fun x => evalK d fr y fun y => indexK d E t x y fun x => k x h
  | .lookup t x y ok => evalK d fr x fun x => evalK d fr y fun y => lookupK d E t x y h ok k
  | .mapEntry t x y => evalK d fr x fun x => evalK d fr y fun y => entK d E t x y h k
  | .entryStore _ m s y => evalK d fr m fun m => evalK d fr s fun s => evalK d fr y fun y => entStoreK d m s y h fun h => k (.tup []) h
  | .range t x => evalK d fr x fun x => rangeOpK d E t x h k
  | .extract x n => evalK d fr x fun x => extractK d x n fun x => k x h
  | .call ⟨.builtin b, xs, ts⟩ => evalsK d fr xs.toList fun xs => builtinK d E b ts.toList xs h k
  | _ => d

def OpGood (P : Program) (o : Oper) (a : Act) (φ : Phi) (h : AH) (w : World) (k : AV → AH → Option β) (r : β) : Prop :=
  ∃ φ' h' w' x v nx, k x h' = some r ∧ (execOp a.eval o).run P w = .ok nx w' ∧ (nx = .value v ∨ (nx = .skip ∧ v = undef)) ∧ VR φ' x v ∧ R φ' h' w' ∧ St φ h w φ' h' w'
theorem OpGood.of {o : Oper} {s : Sem Value} {k : AV → AH → Option β} (hs : execOp a.eval o = (do pure (.value (← s)))) (hg : Good P s φ h w k r) : OpGood P o a φ h w k r := by
  obtain ⟨φ', h', w', x, v, h1, h2, h3, h4, h5⟩ := hg
  refine ⟨φ', h', w', x, v, _, h1, ?_, .inl rfl, h3, h4, h5⟩
  rw [hs, Sem.run_bind, h2]
  rfl
theorem OpGood.ofU {o : Oper} {s : Sem Unit} {k : AV → AH → Option β} (hs : execOp a.eval o = (do s; pure .skip)) (hg : GoodU P s φ h w (fun h => k (.tup []) h) r) : OpGood P o a φ h w k r := by
  obtain ⟨φ', h', w', h1, h2, h4, h5⟩ := hg
  refine ⟨φ', h', w', _, undef, _, h1, ?_, .inr ⟨rfl, rfl⟩, .tup [] #[] .nil, h4, h5⟩
  rw [hs, Sem.run_bind, h2]
  rfl
theorem OpGood.same {o : Oper} {k : AV → AH → Option β} {x : AV} {v : Value} (hR : R φ h w) (hk : k x h = some r) (hx : VR φ x v) (hs : (execOp a.eval o).run P w = .ok (.value v) w) : OpGood P o a φ h w k r :=
  ⟨φ, h, w, x, v, _, hk, hs, .inl rfl, hx, hR, .refl _ _ _⟩
theorem builtinK_some (HT : TabOK E) (HK : KeysOK E) (hR : R φ h w) {b : Builtin} {ts : List TypeId} {xs : List AV} {vs : List Value} {ty : TypeId} {cs : Array Bool} {k : AV → AH → Option β} (hx : VRs φ xs vs) (he : builtinK none E b ts xs h k = some r) :
    ∃ s : Sem Value, builtin b ts.toArray ty cs vs.toArray = (do pure (.value (← s))) ∧ Good E.P s φ h w k r := by
  unfold builtinK at he
  split at he
  · cases hx with | cons _ v1 _ vs h1 hs => cases hs with | cons _ v2 _ vs h2 hs => cases hs; exact ⟨_, rfl, appendAnyK_some HT hR h1 h2 he⟩
  · cases hx with | cons _ v1 _ vs h1 hs => cases hs with | cons _ v2 _ vs h2 hs => cases hs; exact ⟨_, rfl, copyK_some HT hR h1 h2 he⟩
  · cases hx with | cons _ v1 _ vs h1 hs => cases hs; exact ⟨_, rfl, clearK_some HT hR h1 he⟩
  · cases hx with | cons _ v1 _ vs h1 hs => cases hs; exact ⟨_, rfl, (lenOpK_some HT hR h1 he).good hR⟩
  · cases hx with | cons _ v1 _ vs h1 hs => cases hs; exact ⟨_, rfl, (capOpK_some HT hR h1 he).good hR⟩
  · cases hx with | cons _ v1 _ vs h1 hs => cases hs with | cons _ v2 _ vs h2 hs => cases hs; exact ⟨_, rfl, (orcMin_some HT hR h1 h2 he).good hR⟩
  · cases hx with | cons _ v1 _ vs h1 hs => cases hs with | cons _ v2 _ vs h2 hs => cases hs; exact ⟨_, rfl, (orcMax_some HT hR h1 h2 he).good hR⟩
  · cases hx with | cons _ v1 _ vs h1 hs => cases hs with | cons _ v2 _ vs h2 hs => cases hs; exact ⟨_, rfl, delMK_some HT HK hR h1 h2 he⟩
  · cases he
set_option maxHeartbeats 4000000 in
theorem opK_some (HT : TabOK E) (HK : KeysOK E) (hR : R φ h w) (hF : FR φ fr a.tmps) {o : Oper} {k : AV → AH → Option β} (he : opK none E o.op fr h k = some r) : OpGood E.P o a φ h w k r := by
  obtain ⟨dst, op, ty, pos, after, guard⟩ := o
  cases op <;> try (cases he; done)
  case move x => obtain ⟨x', h1, h2⟩ := evalK_some he hF; exact .same hR h1 h2 rfl
  case assign x => obtain ⟨x', h1, h2⟩ := evalK_some he hF; exact .same hR h1 h2 rfl
  case pick c x y =>
    obtain ⟨c', h1, h2⟩ := evalK_some he hF
    unfold pickOpK at h1
    split at h1
    · rename_i b
      generalize hc : a.eval c = cv at h2
      cases h2
      cases b with
      | true =>
        obtain ⟨x', h3, h4⟩ := evalK_some (k := fun x => k x h) h1 hF
        exact .same hR h3 h4 (by simp [execOp, hc, asBool])
      | false =>
        obtain ⟨x', h3, h4⟩ := evalK_some (k := fun x => k x h) h1 hF
        exact .same hR h3 h4 (by simp [execOp, hc, asBool])
    · cases h1
  case alloc t => exact .of rfl (allocK_some HT hR he)
  case box t x => obtain ⟨x', h1, h2⟩ := evalK_some he hF; exact .of rfl (boxK_some hR h2 h1)
  case build t ps =>
    obtain ⟨xs, h1, h2⟩ := partsK_some (φ := φ) (a := a) _ he hF
    exact .of rfl ((buildK_some (qs := ps.map fun (i, x) => (i, a.eval x)) HT hR (by rw [Array.toList_map]; exact h2) h1).good hR)
  case buildSlice t n ps =>
    obtain ⟨xs, h1, h2⟩ := partsK_some (φ := φ) (a := a) _ he hF
    exact .of rfl (buildSliceK_some (qs := ps.map fun (i, x) => (i, a.eval x)) HT hR (by rw [Array.toList_map]; exact h2) h1)
  case insert t m x y =>
    obtain ⟨m', h1, h2⟩ := evalK_some he hF
    obtain ⟨x', h3, h4⟩ := evalK_some h1 hF
    obtain ⟨y', h5, h6⟩ := evalK_some h3 hF
    exact .ofU rfl (updK_some HT HK hR h2 h4 h6 h5)
  case mapUpdate t m x y =>
    obtain ⟨m', h1, h2⟩ := evalK_some he hF
    obtain ⟨x', h3, h4⟩ := evalK_some h1 hF
    obtain ⟨y', h5, h6⟩ := evalK_some h3 hF
    exact .ofU rfl (updK_some HT HK hR h2 h4 h6 h5)
  case load t x => obtain ⟨x', h1, h2⟩ := evalK_some he hF; exact .of rfl ((loadOpK_some HT hR h2 h1).good hR)
  case store t x y =>
    obtain ⟨x', h1, h2⟩ := evalK_some he hF
    obtain ⟨y', h3, h4⟩ := evalK_some h1 hF
    exact .ofU rfl (storeOpK_some HT hR h2 h4 h3)
  case nilCheck x =>
    obtain ⟨x', h1, h2⟩ := evalK_some he hF
    unfold nilK at h1
    generalize hc : a.eval x = cv at h2
    split at h1
    · cases h2 with
      | ptr i o g d hp => exact .same hR h1 (.ptr _ _ _ _ hp) (by simp [execOp, hc])
    · cases h2 with
      | fn f xs ys us vs g1 g2 => exact .same hR h1 (.fn _ _ _ _ _ g1 g2) (by simp [execOp, hc])
    · cases h1
  case binOp op t x y t' =>
    obtain ⟨x', h1, h2⟩ := evalK_some he hF
    obtain ⟨y', h3, h4⟩ := evalK_some h1 hF
    exact .of rfl ((orcBin_some HT HK hR h2 h4 h3).good hR)
  case unOp op t x => obtain ⟨x', h1, h2⟩ := evalK_some he hF; exact .of rfl ((unOpK_some hR h2 h1).good hR)
  case convert s t x => obtain ⟨x', h1, h2⟩ := evalK_some he hF; exact .of rfl ((convertK_some HT hR h2 h1).good hR)
  case makeFunc fn xs ys =>
    cases fn <;> try (cases he; done)
    rename_i f
    obtain ⟨xs', h1, h2⟩ := evalsK_some (φ := φ) (a := a) _ he hF
    obtain ⟨ys', h3, h4⟩ := evalsK_some (φ := φ) (a := a) _ h1 hF
    exact .same hR h3 (.fn f xs' ys' (xs.map a.eval) (ys.map a.eval) (by rw [Array.toList_map]; exact h2) (by rw [Array.toList_map]; exact h4)) rfl
  case makeMap t o =>
    cases o <;> try (cases he; done)
    exact .of rfl (makeMapK_some hR HT he)
  case makeSlice t x y =>
    obtain ⟨x', h1, h2⟩ := evalK_some he hF
    obtain ⟨y', h3, h4⟩ := evalK_some h1 hF
    exact .of rfl (makeSliceK_some HT hR h2 h4 h3)
  case slice t x lo hi mx =>
    obtain ⟨x', h1, h2⟩ := evalK_some he hF
    obtain ⟨lo', h3, h4⟩ := evalOK_some h1 hF
    obtain ⟨hi', h5, h6⟩ := evalOK_some h3 hF
    obtain ⟨mx', h7, h8⟩ := evalOK_some h5 hF
    exact .of rfl ((sliceK_some HT hR h2 h4 h6 h8 h7).good hR)
  case fieldAddr t x f => obtain ⟨x', h1, h2⟩ := evalK_some he hF; exact .of rfl ((fieldAddrK_some HT hR h2 h1).good hR)
  case indexAddr t x y =>
    obtain ⟨x', h1, h2⟩ := evalK_some he hF
    obtain ⟨y', h3, h4⟩ := evalK_some h1 hF
    exact .of rfl ((indexAddrK_some HT hR h2 h4 h3).good hR)
  case index t x y =>
    obtain ⟨x', h1, h2⟩ := evalK_some he hF
    obtain ⟨y', h3, h4⟩ := evalK_some h1 hF
    exact .of rfl ((indexK_some HT hR h2 h4 h3).good hR)
  case lookup t x y ok =>
    obtain ⟨x', h1, h2⟩ := evalK_some he hF
    obtain ⟨y', h3, h4⟩ := evalK_some h1 hF
    exact .of rfl ((lookupK_some HT HK hR h2 h4 h3).good hR)
  case mapEntry t x y =>
    obtain ⟨x', h1, h2⟩ := evalK_some he hF
    obtain ⟨y', h3, h4⟩ := evalK_some h1 hF
    exact .of rfl (entK_some HT HK hR h2 h4 h3)
  case entryStore t m s y =>
    obtain ⟨m', h1, h2⟩ := evalK_some he hF
    obtain ⟨s', h3, h4⟩ := evalK_some h1 hF
    obtain ⟨y', h5, h6⟩ := evalK_some h3 hF
    exact .ofU rfl (entStoreK_some hR h2 h4 h6 h5)
  case range t x => obtain ⟨x', h1, h2⟩ := evalK_some he hF; exact .of rfl (rangeOpK_some hR HT h2 h1)
  case extract x n => obtain ⟨x', h1, h2⟩ := evalK_some he hF; exact .of rfl ((extractK_some hR h2 h1).good hR)
  case call c =>
    obtain ⟨cal, xs, ts⟩ := c
    cases cal <;> try (cases he; done)
    rename_i b
    obtain ⟨xs', h1, h2⟩ := evalsK_some (φ := φ) (a := a) _ he hF
    obtain ⟨s, h3, h4⟩ := builtinK_some (ty := ty) (cs := xs.map fun | .const _ => true | _ => false) HT HK hR h2 h1
    refine .of (s := s) ?_ h4
    rw [← h3]
    have e : (xs.toList.map a.eval).toArray = xs.map a.eval := by apply Array.ext'; simp
    rw [e]
    rfl
end
end Go.Proofs.YtibmpjhffeinoaaGreat.Kx

namespace Go.Proofs.YtibmpjhffeinoaaGreat.Kx
open Go
variable [Val] [Bet]

noncomputable section
variable {β : Type} {E : Env} {P : Program} {φ : Phi} {h h0 : AH} {w : World} {r : β} {fr fr' : AF} {a : Act}

/-- The temporaries that an operation looks at. -/
def appN (xs ys : List Nat) : List Nat := List.rec ys (fun x _ ih => x :: ih) xs
omit [Val] [Bet] in
theorem appN_eq (xs ys : List Nat) : appN xs ys = xs ++ ys := by
  induction xs with
  | nil => rfl
  | cons x xs ih => exact congrArg (x :: ·) ih
def tmpO (x : Operand) (l : List Nat) : List Nat := match x with
  | .tmp t => t :: l
  | _ => l
def tmpOO (x : Option Operand) (l : List Nat) : List Nat := match x with
  | some x => tmpO x l
  | none => l
def tmpL (xs : List Operand) (l : List Nat) : List Nat := List.rec l (fun x _ ih => tmpO x ih) xs
def tmpP (xs : List (Nat × Operand)) (l : List Nat) : List Nat := List.rec l (fun x _ ih => tmpO x.2 ih) xs
def tmpsOf (op : Op) : List Nat := match op with
  | .range _ x | .move x | .assign x | .box _ x | .load _ x | .nilCheck x | .unOp _ _ x | .convert _ _ x | .fieldAddr _ x _ | .extract x _ => tmpO x []
  | .pick c x y => tmpO c (tmpO x (tmpO y []))
  | .build _ ps | .buildSlice _ _ ps => tmpP ps.toList []
  | .store _ x y | .binOp _ _ x y _ | .makeSlice _ x y | .indexAddr _ x y | .index _ x y | .lookup _ x y _ | .mapEntry _ x y => tmpO x (tmpO y [])
  | .makeFunc _ xs ys => tmpL xs.toList (tmpL ys.toList [])
  | .slice _ x lo hi mx => tmpO x (tmpOO lo (tmpOO hi (tmpOO mx [])))
  | .mapUpdate _ m x y | .entryStore _ m x y | .insert _ m x y => tmpO m (tmpO x (tmpO y []))
  | .call ⟨.builtin _, xs, _⟩ => tmpL xs.toList []
  | .call ⟨.value f, xs, _⟩ => tmpO f (tmpL xs.toList [])
  | _ => []
def Agree (fr fr' : AF) (l : List Nat) : Prop := ∀ t ∈ l, fr.t.get t = fr'.t.get t
omit [Val] [Bet] in
theorem Agree.tmpO {x : Operand} {l : List Nat} (h : Agree fr fr' (tmpO x l)) : (∀ (d : β) (k : AV → β), evalK d fr x k = evalK d fr' x k) ∧ Agree fr fr' l := by
  cases x with
  | tmp t =>
    refine ⟨fun d k => ?_, fun s hs => h s (List.mem_cons_of_mem _ hs)⟩
    show getK d fr.t t k = getK d fr'.t t k
    rw [getK_eq, getK_eq, h t List.mem_cons_self]
  | const v => exact ⟨fun _ _ => rfl, h⟩
  | func f => exact ⟨fun _ _ => rfl, h⟩
  | global g => exact ⟨fun _ _ => rfl, h⟩
omit [Val] [Bet] in
theorem Agree.tmpOO {x : Option Operand} {l : List Nat} (h : Agree fr fr' (tmpOO x l)) : (∀ (d : β) (k : Option AV → β), evalOK d fr x k = evalOK d fr' x k) ∧ Agree fr fr' l := by
  cases x with
  | none => exact ⟨fun _ _ => rfl, h⟩
  | some x => exact ⟨fun d k => (Agree.tmpO (β := β) h).1 d _, (Agree.tmpO (β := β) h).2⟩
omit [Val] [Bet] in
theorem Agree.tmpL {xs : List Operand} {l : List Nat} (h : Agree fr fr' (tmpL xs l)) : (∀ (d : β) (k : List AV → β), evalsK d fr xs k = evalsK d fr' xs k) ∧ Agree fr fr' l := by
  induction xs with
  | nil => exact ⟨fun _ _ => rfl, h⟩
  | cons x xs ih =>
    have h1 := Agree.tmpO (β := β) (x := x) h
    have h2 := ih h1.2
    refine ⟨fun d k => ?_, h2.2⟩
    show evalK d fr x (fun x => evalsK d fr xs fun xs => k (x :: xs)) = evalK d fr' x (fun x => evalsK d fr' xs fun xs => k (x :: xs))
    rw [h1.1]
    congr 1
    funext x
    exact h2.1 _ _
omit [Val] [Bet] in
theorem Agree.tmpP {xs : List (Nat × Operand)} {l : List Nat} (h : Agree fr fr' (tmpP xs l)) : (∀ (d : β) (k : List (Nat × AV) → β), partsK d fr xs k = partsK d fr' xs k) ∧ Agree fr fr' l := by
  induction xs with
  | nil => exact ⟨fun _ _ => rfl, h⟩
  | cons p xs ih =>
    have h1 := Agree.tmpO (β := β) (x := p.2) h
    have h2 := ih h1.2
    refine ⟨fun d k => ?_, h2.2⟩
    show evalK d fr p.2 (fun x => partsK d fr xs fun xs => k ((p.1, x) :: xs)) = evalK d fr' p.2 (fun x => partsK d fr' xs fun xs => k ((p.1, x) :: xs))
    rw [h1.1]
    congr 1
    funext x
    exact h2.1 _ _
omit [Val] [Bet] in
/-- An operation looks at its operands alone. -/
theorem opK_congr {op : Op} (hg : Agree fr fr' (tmpsOf op)) (d : β) (k : AV → AH → β) : opK d E op fr h k = opK d E op fr' h k := by
  cases op <;> try rfl
  case move x => exact (Agree.tmpO (β := β) hg).1 _ _
  case assign x => exact (Agree.tmpO (β := β) hg).1 _ _
  case box t x => exact (Agree.tmpO (β := β) hg).1 _ _
  case load t x => exact (Agree.tmpO (β := β) hg).1 _ _
  case nilCheck x => exact (Agree.tmpO (β := β) hg).1 _ _
  case unOp o t x => exact (Agree.tmpO (β := β) hg).1 _ _
  case convert s t x => exact (Agree.tmpO (β := β) hg).1 _ _
  case fieldAddr t x f => exact (Agree.tmpO (β := β) hg).1 _ _
  case extract x n => exact (Agree.tmpO (β := β) hg).1 _ _
  case range t x => exact (Agree.tmpO (β := β) hg).1 _ _
  case pick c x y =>
    have h1 := Agree.tmpO (β := β) (x := c) hg
    have h2 := Agree.tmpO (β := β) h1.2
    have h3 := Agree.tmpO (β := β) h2.2
    simp only [opK, h1.1, pickOpK]
    congr 1
    funext c'
    cases c' <;> simp only [h2.1, h3.1]
  case build t ps => exact (Agree.tmpP (β := β) hg).1 _ _
  case buildSlice t n ps => exact (Agree.tmpP (β := β) hg).1 _ _
  case makeMap t o => cases o <;> rfl
  case slice t x lo hi mx =>
    have h1 := Agree.tmpO (β := β) (x := x) hg
    have h2 := Agree.tmpOO (β := β) h1.2
    have h3 := Agree.tmpOO (β := β) h2.2
    have h4 := Agree.tmpOO (β := β) h3.2
    simp only [opK, h1.1, h2.1, h3.1, h4.1]
  case makeFunc fn xs ys =>
    cases fn <;> try rfl
    have h1 := Agree.tmpL (β := β) (xs := xs.toList) hg
    have h2 := Agree.tmpL (β := β) h1.2
    simp only [opK, h1.1, h2.1]
  case call c =>
    obtain ⟨cal, xs, ts⟩ := c
    cases cal <;> try rfl
    exact (Agree.tmpL (β := β) hg).1 _ _
  all_goals first
    | (have h1 := Agree.tmpO (β := β) hg
       have h2 := Agree.tmpO (β := β) h1.2
       have h3 := Agree.tmpO (β := β) h2.2
       simp only [opK, h1.1, h2.1, h3.1]
       done)
    | (have h1 := Agree.tmpO (β := β) hg
       have h2 := Agree.tmpO (β := β) h1.2
       simp only [opK, h1.1, h2.1]
       done)

/-! ### Operations that leave all as it is -/
def OpV (P : Program) (o : Oper) (a : Act) (φ : Phi) (h : AH) (w : World) (k : AV → AH → Option β) (r : β) : Prop := ∃ x v, k x h = some r ∧ (execOp a.eval o).run P w = .ok (.value v) w ∧ VR φ x v
omit [Bet] in
theorem OpV.of {o : Oper} {s : Sem Value} {k : AV → AH → Option β} (hs : execOp a.eval o = (do pure (.value (← s)))) (hg : GoodS P s φ h w k r) : OpV P o a φ h w k r := by
  obtain ⟨x, v, h1, h2, h3⟩ := hg
  refine ⟨x, v, h1, ?_, h3⟩
  rw [hs, Sem.run_bind, h2]
  rfl
omit [Bet] in
theorem GoodV.s {s : Sem Value} {k : AV → AH → Option β} (hg : GoodV P s φ w (fun x => k x h) r) : GoodS P s φ h w k r := hg
/-- Of which kind an operation is, where a region draws its order. -/
inductive Cls where
  | pure
  | read
  | made
  | eff
def clsOf (op : Op) : Cls := match op with
  | .move _ | .assign _ | .pick .. | .nilCheck _ | .binOp .. | .unOp .. | .convert .. | .makeFunc .. | .slice .. | .fieldAddr .. | .indexAddr .. | .index .. | .extract .. | .build .. => .pure
  | .load .. | .lookup .. => .read
  | .alloc _ | .box .. | .buildSlice .. | .makeMap .. | .makeSlice .. => .made
  | .call ⟨.builtin .len, _, _⟩ => .read
  | .call ⟨.builtin .cap, _, _⟩ => .pure
  | .call ⟨.builtin .min, _, _⟩ => .pure
  | .call ⟨.builtin .max, _, _⟩ => .pure
  | _ => .eff
def stillB (c : Cls) : Bool := match c with
  | .pure => true
  | .read => true
  | _ => false
omit [Val] [Bet] in
theorem opK_heap {op : Op} (hc : clsOf op = .pure) (k : AV → AH → Option β) : opK none E op fr h0 k = opK none E op fr h (fun x _ => k x h0) := by
  cases op <;> try (cases hc; done)
  case makeFunc fn xs ys => cases fn <;> rfl
  case call c =>
    obtain ⟨cal, xs, ts⟩ := c
    cases cal <;> try (cases hc; done)
    rename_i b
    cases b <;> try (cases hc; done)
    all_goals
      show evalsK none fr xs.toList _ = evalsK none fr xs.toList _
      congr 1
      funext xs'
      unfold builtinK
      rcases ts.toList with _ | ⟨t, _ | ⟨t', _ | _⟩⟩ <;> rcases xs' with _ | ⟨x, _ | ⟨y, _ | _⟩⟩ <;> rfl
  case build t ps =>
    show partsK none fr ps.toList _ = partsK none fr ps.toList _
    congr 1
  all_goals rfl
theorem builtinV_some (HT : TabOK E) (hR : R φ h w) {b : Builtin} {ts : List TypeId} {xs : List AV} {vs : List Value} {ty : TypeId} {cs : Array Bool} {k : AV → AH → Option β} (hx : VRs φ xs vs) (hc : stillB (clsOf (.call ⟨.builtin b, #[], #[]⟩)) = true) (he : builtinK none E b ts xs h k = some r) :
    ∃ s : Sem Value, builtin b ts.toArray ty cs vs.toArray = (do pure (.value (← s))) ∧ GoodS E.P s φ h w k r := by
  unfold builtinK at he
  split at he
  · cases hc
  · cases hc
  · cases hc
  · cases hx with | cons _ v1 _ vs h1 hs => cases hs; exact ⟨_, rfl, (lenOpK_some HT hR h1 he).s⟩
  · cases hx with | cons _ v1 _ vs h1 hs => cases hs; exact ⟨_, rfl, (capOpK_some HT hR h1 he).s⟩
  · cases hx with | cons _ v1 _ vs h1 hs => cases hs with | cons _ v2 _ vs h2 hs => cases hs; exact ⟨_, rfl, (orcMin_some HT hR h1 h2 he).s⟩
  · cases hx with | cons _ v1 _ vs h1 hs => cases hs with | cons _ v2 _ vs h2 hs => cases hs; exact ⟨_, rfl, (orcMax_some HT hR h1 h2 he).s⟩
  · cases hc
  · cases he
set_option maxHeartbeats 4000000 in
theorem opV_some (HT : TabOK E) (HK : KeysOK E) (hR : R φ h w) (hF : FR φ fr a.tmps) {o : Oper} {k : AV → AH → Option β} (hc : stillB (clsOf o.op) = true) (he : opK none E o.op fr h k = some r) : OpV E.P o a φ h w k r := by
  obtain ⟨dst, op, ty, pos, after, guard⟩ := o
  cases op <;> try (cases he; done)
  all_goals try (cases hc; done)
  case move x => obtain ⟨x', h1, h2⟩ := evalK_some he hF; exact ⟨_, _, h1, rfl, h2⟩
  case assign x => obtain ⟨x', h1, h2⟩ := evalK_some he hF; exact ⟨_, _, h1, rfl, h2⟩
  case pick c x y =>
    obtain ⟨c', h1, h2⟩ := evalK_some he hF
    unfold pickOpK at h1
    split at h1
    · rename_i b
      generalize hc : a.eval c = cv at h2
      cases h2
      cases b with
      | true =>
        obtain ⟨x', h3, h4⟩ := evalK_some (k := fun x => k x h) h1 hF
        exact ⟨_, _, h3, by simp [execOp, hc, asBool], h4⟩
      | false =>
        obtain ⟨x', h3, h4⟩ := evalK_some (k := fun x => k x h) h1 hF
        exact ⟨_, _, h3, by simp [execOp, hc, asBool], h4⟩
    · cases h1
  case build t ps =>
    obtain ⟨xs, h1, h2⟩ := partsK_some (φ := φ) (a := a) _ he hF
    exact .of rfl (buildK_some (qs := ps.map fun (i, x) => (i, a.eval x)) HT hR (by rw [Array.toList_map]; exact h2) h1)
  case load t x => obtain ⟨x', h1, h2⟩ := evalK_some he hF; exact .of rfl (loadOpK_some HT hR h2 h1)
  case nilCheck x =>
    obtain ⟨x', h1, h2⟩ := evalK_some he hF
    unfold nilK at h1
    generalize hc : a.eval x = cv at h2
    split at h1
    · cases h2 with
      | ptr i o g d hp => exact ⟨_, _, h1, by simp [execOp, hc], .ptr _ _ _ _ hp⟩
    · cases h2 with
      | fn f xs ys us vs g1 g2 => exact ⟨_, _, h1, by simp [execOp, hc], .fn _ _ _ _ _ g1 g2⟩
    · cases h1
  case binOp op t x y t' =>
    obtain ⟨x', h1, h2⟩ := evalK_some he hF
    obtain ⟨y', h3, h4⟩ := evalK_some h1 hF
    exact .of rfl ((orcBin_some HT HK hR h2 h4 h3).s)
  case unOp op t x => obtain ⟨x', h1, h2⟩ := evalK_some he hF; exact .of rfl ((unOpK_some hR h2 h1).s)
  case convert s t x => obtain ⟨x', h1, h2⟩ := evalK_some he hF; exact .of rfl ((convertK_some HT hR h2 h1).s)
  case makeFunc fn xs ys =>
    cases fn <;> try (cases he; done)
    rename_i f
    obtain ⟨xs', h1, h2⟩ := evalsK_some (φ := φ) (a := a) _ he hF
    obtain ⟨ys', h3, h4⟩ := evalsK_some (φ := φ) (a := a) _ h1 hF
    exact ⟨_, _, h3, rfl, .fn f xs' ys' (xs.map a.eval) (ys.map a.eval) (by rw [Array.toList_map]; exact h2) (by rw [Array.toList_map]; exact h4)⟩
  case slice t x lo hi mx =>
    obtain ⟨x', h1, h2⟩ := evalK_some he hF
    obtain ⟨lo', h3, h4⟩ := evalOK_some h1 hF
    obtain ⟨hi', h5, h6⟩ := evalOK_some h3 hF
    obtain ⟨mx', h7, h8⟩ := evalOK_some h5 hF
    exact .of rfl ((sliceK_some HT hR h2 h4 h6 h8 h7).s)
  case fieldAddr t x f => obtain ⟨x', h1, h2⟩ := evalK_some he hF; exact .of rfl ((fieldAddrK_some HT hR h2 h1).s)
  case indexAddr t x y =>
    obtain ⟨x', h1, h2⟩ := evalK_some he hF
    obtain ⟨y', h3, h4⟩ := evalK_some h1 hF
    exact .of rfl ((indexAddrK_some HT hR h2 h4 h3).s)
  case index t x y =>
    obtain ⟨x', h1, h2⟩ := evalK_some he hF
    obtain ⟨y', h3, h4⟩ := evalK_some h1 hF
    exact .of rfl ((indexK_some HT hR h2 h4 h3).s)
  case lookup t x y ok =>
    obtain ⟨x', h1, h2⟩ := evalK_some he hF
    obtain ⟨y', h3, h4⟩ := evalK_some h1 hF
    exact .of rfl (lookupK_some HT HK hR h2 h4 h3)
  case extract x n => obtain ⟨x', h1, h2⟩ := evalK_some he hF; exact .of rfl ((extractK_some hR h2 h1).s)
  case call c =>
    obtain ⟨cal, xs, ts⟩ := c
    cases cal <;> try (cases he; done)
    rename_i b
    obtain ⟨xs', h1, h2⟩ := evalsK_some (φ := φ) (a := a) _ he hF
    have hc' : stillB (clsOf (.call ⟨.builtin b, #[], #[]⟩)) = true := by
      cases b <;> first | exact hc | cases hc
    obtain ⟨s, h3, h4⟩ := builtinV_some (ty := ty) (cs := xs.map fun | .const _ => true | _ => false) HT hR h2 hc' h1
    refine .of (s := s) ?_ h4
    rw [← h3]
    have e : (xs.toList.map a.eval).toArray = xs.map a.eval := by apply Array.ext'; simp
    rw [e]
    rfl
end
end Go.Proofs.YtibmpjhffeinoaaGreat.Kx
