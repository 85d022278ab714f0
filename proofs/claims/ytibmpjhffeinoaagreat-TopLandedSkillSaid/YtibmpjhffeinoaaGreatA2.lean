/-
  An executor, sixth part: the operations on maps.
  An executor, seventh part: more operations on maps.
  An executor, eighth part: variables, structs, arrays, addresses, slices.
  An executor, ninth part: addresses, slices of slices, small builtins.
  An executor, tenth part: slices, append, copy, clear.
  An executor, eleventh part: append, copy, clear.
-/
import Derived.Test.YtibmpjhffeinoaaGreatA1
import Derived.Great.BuildSlice
import Derived.Laws.MakeOwn
namespace Go.Proofs.YtibmpjhffeinoaaGreat.Kx
open Go Go.Maps
variable [Val] [Bet]

noncomputable section
variable {β : Type} {E : Env} {P : Program} {φ : Phi} {h : AH} {w : World} {r : β}

/-- An instruction that yields a value, and the continuation behind it. -/
def Good (P : Program) (s : Sem Value) (φ : Phi) (h : AH) (w : World) (k : AV → AH → Option β) (r : β) : Prop :=
  ∃ φ' h' w' x v, k x h' = some r ∧ s.run P w = .ok v w' ∧ VR φ' x v ∧ R φ' h' w' ∧ St φ h w φ' h' w'
/-- A value; all stays as it is. -/
def GoodS (P : Program) (s : Sem Value) (φ : Phi) (h : AH) (w : World) (k : AV → AH → Option β) (r : β) : Prop := ∃ x v, k x h = some r ∧ s.run P w = .ok v w ∧ VR φ x v
theorem GoodS.good {s : Sem Value} {φ : Phi} {h : AH} {w : World} {k : AV → AH → Option β} {r : β} (hR : R φ h w) (hg : GoodS P s φ h w k r) : Good P s φ h w k r := let ⟨x, v, h1, h2, h3⟩ := hg; ⟨φ, h, w, x, v, h1, h2, h3, hR, .refl _ _ _⟩
def GoodU (P : Program) (s : Sem Unit) (φ : Phi) (h : AH) (w : World) (k : AH → Option β) (r : β) : Prop :=
  ∃ φ' h' w', k h' = some r ∧ s.run P w = .ok () w' ∧ R φ' h' w' ∧ St φ h w φ' h' w'

omit [Bet] in
theorem find_conc {t n : Nat} (K : KeyOK P t n) (w : World) {es : List (List Int × AV × Nat)} {fs : List MapEntry} (he : ERs φ es fs) (hw : ∀ e ∈ es, e.1.length = n ∧ ∀ x ∈ e.1, (Lit.int .i64 x).wf = true) (hn : (es.map (·.1)).Nodup)
    {ks : List Int} (hl : ks.length = n) (hwf : ∀ x ∈ ks, (Lit.int .i64 x).wf = true) :
    ((∀ e ∈ es, e.1 ≠ ks) → (Instr.findKey t (.agg (intsV ks)) fs).run P w = .ok none w) ∧
    ∀ (j : Nat) (e : List Int × AV × Nat) (f : MapEntry), es[j]? = some e → e.1 = ks → fs[j]? = some f → (Instr.findKey t (.agg (intsV ks)) fs).run P w = .ok (some (j, f.val)) w := by
  obtain ⟨l, hk⟩ := K.keyOf ks hl hwf
  have hf := K.keyed.find w hk fs (fun f hf => by
    obtain ⟨j, hj⟩ := List.getElem?_of_mem hf
    obtain ⟨e, h1, h2, _⟩ := he.get' hj
    have h3 := hw e (List.mem_of_getElem? h1)
    rw [h2]
    exact K.keyOf e.1 h3.1 h3.2)
  rcases hf with ⟨h1, h2⟩ | ⟨j, f, h1, h2, h3⟩
  · refine ⟨fun _ => h1, fun j e f hj hek hfj => ?_⟩
    obtain ⟨g, h4, h5, _⟩ := he.get hj
    rw [hfj] at h4
    cases h4
    exact absurd (by rw [h5, hek]) (h2 f (List.mem_of_getElem? hfj))
  · obtain ⟨e, h4, h5, h6, h7⟩ := he.get' h2
    have hek : e.1 = ks := intsV_inj (by rw [h3] at h5; injection h5 with h5; exact h5.symm)
    refine ⟨fun hno => absurd hek (hno e (List.mem_of_getElem? h4)), fun j' e' f' hj' hek' hfj' => ?_⟩
    have hjj : j = j' := by
      have a1 : (es.map (·.1))[j]? = some ks := by rw [List.getElem?_map, h4]; simp [hek]
      have a2 : (es.map (·.1))[j']? = some ks := by rw [List.getElem?_map, hj']; simp [hek']
      exact (List.getElem?_inj (List.getElem?_eq_some_iff.1 a1).1 hn).1 (a1.trans a2.symm)
    subst hjj
    rw [h2] at hfj'
    cases hfj'
    exact h1

def tabK (d : β) (E : Env) (t : Nat) (k : TI → β) : β := getK d E.tab t k
def mapTK (d : β) (E : Env) (t : Nat) (k : Nat → Nat → β) : β := tabK d E t fun ti => match ti.d with
  | .map kt et => k kt et
  | _ => d
omit [Bet] in
theorem mapTK_some (HT : TabOK E) {t : Nat} {k : Nat → Nat → Option β} (he : mapTK none E t k = some r) : ∃ kt et, (∀ w, (underlying t).run E.P w = .ok (.map kt et) w) ∧ k kt et = some r := by
  obtain ⟨ti, h1, h2⟩ := getK_some he
  obtain ⟨i, dsc, z, T⟩ := HT.1 _ _ h1
  cases hd : ti.d <;> rw [hd] at h2 <;> try (cases h2; done)
  rename_i kt et
  have h3 := T.desc
  rw [hd] at h3
  have h3 : dsc = _ := h3
  subst h3
  exact ⟨kt, et, T.run_under, h2⟩
def zeroK (d : β) (ti : TI) (k : AV → β) : β := ite_ ti.d.agg (k (.agg ti.zero)) (match ti.zero with
  | [x] => k x
  | _ => d)
omit [Bet] in
theorem zeroK_some (HT : TabOK E) {t : Nat} {ti : TI} (ht : E.tab.get t = some ti) {k : AV → Option β} (he : zeroK none ti k = some r) (φ : Phi) : ∃ x z, k x = some r ∧ VR φ x z ∧ (∀ w, (zeroValue t).run E.P w = .ok z w) := by
  obtain ⟨i, dsc, z, T⟩ := HT.1 _ _ ht
  unfold zeroK at he
  have hz := T.zs.ext (phi0_ext φ)
  cases ha : ti.d.agg with
  | true =>
    rw [ha, ite_true_] at he
    refine ⟨_, z, he, ?_, T.run_zero⟩
    rw [T.zagg ha]
    exact .agg _ _ hz
  | false =>
    rw [ha, ite_false_] at he
    split at he
    · rename_i x hx
      rw [hx, oneCell_cells (T.zone ha).2] at hz
      cases hz with
      | cons _ _ _ _ h1 _ => exact ⟨x, z, he, h1, T.run_zero⟩
    · cases he
def mapK (d : β) (h : AH) (i : Nat) (k : Nat → List (List Int × AV × Nat) → Nat → β) : β := getK d h.t i fun ao => match ao with
  | .map n es cl => k n es cl
  | _ => d
theorem mapK_some (hR : R φ h w) {i g : Nat} {d : Nat × Nat} (hp : φ i = some (g, d)) {k : Nat → List (List Int × AV × Nat) → Nat → Option β} (he : mapK none h i k = some r) :
    ∃ n es cl ces, h.get i = some (.map n es cl) ∧ k n es cl = some r ∧ w.heap[g]? = some (.map ces cl) ∧ ERs φ es ces.toList ∧ (es.map (·.1)).Nodup ∧ ∀ e ∈ es, e.1.length = n ∧ ∀ x ∈ e.1, (Lit.int .i64 x).wf = true := by
  obtain ⟨ao, h1, h2⟩ := getK_some he
  cases ao <;> try (cases h2; done)
  rename_i n es cl
  have h3 := AH.get_of h1 (by simp)
  obtain ⟨g', d', o, h4, h5, ces, rfl, h6, h7, h8⟩ := hR.obj i _ h3
  rw [hp] at h4
  cases h4
  exact ⟨n, es, cl, ces, h3, h2, h5, h6, h7, h8⟩
omit [Val] [Bet] in
theorem run_getObj_map {g : Nat} {ces : Array MapEntry} {cl : Nat} (hg : w.heap[g]? = some (.map ces cl)) : (getObj g).run P w = .ok (.map ces cl) w := by
  simp [getObj, Sem.run, hg]

/-! ### Lookups -/
def tupOk (ok : Bool) (x : AV) (b : Bool) : AV := Bool.rec x (.tup [x, .bool b]) ok
def lookupK (d : β) (E : Env) (t : Nat) (m x : AV) (h : AH) (ok : Bool) (k : AV → AH → β) : β := mapTK d E t fun kt et => keyK d E kt x fun ks => tabK d E et fun ti => match m with
  | .mp (some i) => mapK d h i fun n es _ => ite_ (lenIB ks n) (findK es ks (zeroK d ti fun z => k (tupOk ok z false) h) (fun v _ => k (tupOk ok v true) h)) d
  | _ => d
omit [Bet] in
theorem tupOk_VR {x : AV} {v : Value} (hx : VR φ x v) (ok b : Bool) : VR φ (tupOk ok x b) (if ok then .tuple #[v, .bool b] else v) := by
  cases ok with
  | false => exact hx
  | true => exact .tup _ _ (.cons _ _ _ _ hx (.cons _ _ _ _ (.bool _) .nil))
theorem lookupK_some (HT : TabOK E) (HK : KeysOK E) (hR : R φ h w) {t : Nat} {m x : AV} {mv xv : Value} {ok : Bool} {k : AV → AH → Option β} (hm : VR φ m mv) (hx : VR φ x xv) (he : lookupK none E t m x h ok k = some r) :
    GoodS E.P (Instr.lookup t mv xv ok) φ h w k r := by
  obtain ⟨kt, et, hu, h1⟩ := mapTK_some HT he
  obtain ⟨ks, n, h2, rfl, K, hl, hwf⟩ := keyK_some HK h1 hx
  obtain ⟨ti, h3, h4⟩ := getK_some h2
  cases hm <;> try (cases h4; done)
  rename_i i g d hp
  obtain ⟨n', es, cl, ces, h5, h6, hg, hes, hnd, hew⟩ := mapK_some hR hp h4
  cases hb : lenIB ks n' with
  | false => rw [hb] at h6; cases h6
  | true =>
    rw [hb, ite_true_] at h6
    have hn : ks.length = n' := lenIB_eq ks n' hb
    subst hl
    subst hn
    obtain ⟨l, hkey⟩ := K.keyOf ks rfl hwf
    obtain ⟨f1, f2⟩ := find_conc K w hes hew hnd rfl hwf
    have hchk := K.keyed.check w ces.isEmpty hkey
    rcases findK_eq es ks (zeroK none ti fun z => k (tupOk ok z false) h) (fun v _ => k (tupOk ok v true) h) with ⟨h7, h8⟩ | ⟨j, e, h7, h8, h9⟩
    · rw [h7] at h6
      obtain ⟨z, zv, h10, h11, h12⟩ := zeroK_some HT h3 h6 φ
      refine ⟨_, _, h10, ?_, tupOk_VR h11 ok false⟩
      unfold Instr.lookup
      simp only [Sem.run_bind, hu, Result.andThen, run_getObj_map hg, Sem.run_pure, hchk, f1 h8, h12]
    · rw [h9] at h6
      obtain ⟨f, h10, h11, h12, _⟩ := hes.get h7
      refine ⟨_, _, h6, ?_, tupOk_VR h12 ok true⟩
      unfold Instr.lookup
      simp only [Sem.run_bind, hu, Result.andThen, run_getObj_map hg, Sem.run_pure, hchk, f2 j e f h7 h8 h10]

/-! ### Writing -/
omit [Val] [Bet] in
theorem run_setObj_map {g : Nat} {ces : Array MapEntry} {cl : Nat} (hg : w.heap[g]? = some (.map ces cl)) (o : Obj) : (setObj g o).run P w = .ok () { w with heap := w.heap.setIfInBounds g o } := by
  simp [setObj, Sem.run, hg]
omit [Val] [Bet] in
theorem set_facts {g : Nat} {o0 : Obj} (hg : w.heap[g]? = some o0) (o : Obj) : ({ w with heap := w.heap.setIfInBounds g o } : World).heap[g]? = some o ∧ (∀ k, k ≠ g → ({ w with heap := w.heap.setIfInBounds g o } : World).heap[k]? = w.heap[k]?) ∧ ({ w with heap := w.heap.setIfInBounds g o } : World).heap.size = w.heap.size := by
  have hlt := (Array.getElem?_eq_some_iff.1 hg).1
  refine ⟨?_, fun k hk => ?_, by simp⟩
  · simp [hlt]
  · show (w.heap.setIfInBounds g o)[k]? = _
    rw [Array.getElem?_setIfInBounds, if_neg (fun e => hk e.symm)]
omit [Val] [Bet] in
theorem map_one {_xs : List AV} {_k : AV → Option β} : True := trivial
def byKey (ks : List Int) (e : List Int × AV × Nat) : Bool := keyEq e.1 ks
def withVal (v : AV) (e : List Int × AV × Nat) : Option (List Int × AV × Nat) := some (e.1, v, e.2.2)
def updK (d : β) (E : Env) (t : Nat) (m x y : AV) (h : AH) (k : AH → β) : β := mapTK d E t fun kt _ => keyK d E kt x fun ks => match m with
  | .mp (some i) => mapK d h i fun n es cl => ite_ (lenIB ks n)
      (editK es (byKey ks) (withVal y) (entryAppK es (ks, y, cl) fun es' => natK (Nat.succ cl) fun cl' => setHK d h i (.map n es' cl') k) fun es' => setHK d h i (.map n es' cl) k) d
  | _ => d
where
  entryAppK (es : List (List Int × AV × Nat)) (e : List Int × AV × Nat) : (List (List Int × AV × Nat) → β) → β := List.rec (motive := fun _ => (List (List Int × AV × Nat) → β) → β) (fun k => k [e]) (fun x _ ih k => ih fun ys => k (x :: ys)) es
omit [Val] [Bet] in
theorem entryAppK_eq (es : List (List Int × AV × Nat)) (e : List Int × AV × Nat) : ∀ k : List (List Int × AV × Nat) → β, updK.entryAppK es e k = k (es ++ [e]) := by
  induction es with
  | nil => intro k; rfl
  | cons x es ih => intro k; exact ih fun ys => k (x :: ys)
omit [Bet] in
theorem ERs.set_ {es : List (List Int × AV × Nat)} {fs : List MapEntry} (he : ERs φ es fs) {j : Nat} {e : List Int × AV × Nat} (hj : es[j]? = some e) {y : AV} {v : Value} (hy : VR φ y v) {q : MapEntry → MapEntry}
    (hq : ∀ f, fs[j]? = some f → (q f).key = f.key ∧ (q f).val = v ∧ (q f).born = f.born) : ERs φ (es.set j (e.1, y, e.2.2)) (fs.modify j q) := by
  refine ERs.of (by simp [he.length]) fun i e' f' he' hf' => ?_
  have hi : i < es.length := by have := (List.getElem?_eq_some_iff.1 he').1; simpa using this
  obtain ⟨f, h1, h2, h3, h4⟩ := he.get (List.getElem?_eq_getElem hi)
  rw [List.getElem?_modify, h1] at hf'
  rw [List.getElem?_set] at he'
  by_cases hij : j = i
  · subst hij
    rw [if_pos rfl, if_pos hi] at he'
    cases he'
    simp at hf'
    subst hf'
    obtain ⟨q1, q2, q3⟩ := hq f h1
    have hee : e = es[j] := Option.some.inj (hj.symm.trans (List.getElem?_eq_getElem hi))
    subst hee
    exact ⟨by rw [q1, h2], by rw [q2]; exact hy, by rw [q3, h4]⟩
  · rw [if_neg hij] at he'
    simp [hij] at hf'
    subst hf'
    rw [List.getElem?_eq_getElem hi] at he'
    cases he'
    exact ⟨h2, h3, h4⟩
omit [Val] [Bet] in
theorem map_set_keys {es : List (List Int × AV × Nat)} {j : Nat} {e : List Int × AV × Nat} (hj : es[j]? = some e) (y : AV) (b : Nat) : (es.set j (e.1, y, b)).map (·.1) = es.map (·.1) := by
  apply List.ext_getElem?
  intro i
  rw [List.getElem?_map, List.getElem?_map, List.getElem?_set]
  by_cases h : j = i
  · subst h
    rw [if_pos rfl, if_pos (List.getElem?_eq_some_iff.1 hj).1, hj]
    rfl
  · rw [if_neg h]
omit [Val] [Bet] in
theorem mem_set_keys {es : List (List Int × AV × Nat)} {n j : Nat} {e : List Int × AV × Nat} (hj : es[j]? = some e) {y : AV} {b : Nat} (hw : ∀ e ∈ es, e.1.length = n ∧ ∀ x ∈ e.1, (Lit.int .i64 x).wf = true) : ∀ e' ∈ es.set j (e.1, y, b), e'.1.length = n ∧ ∀ x ∈ e'.1, (Lit.int .i64 x).wf = true := by
  intro e' he'
  rcases List.mem_or_eq_of_mem_set he' with h | h
  · exact hw e' h
  · subst h; exact hw e (List.mem_of_getElem? hj)
omit [Bet] in
theorem ERs.snoc {es : List (List Int × AV × Nat)} {fs : List MapEntry} (he : ERs φ es fs) {ks : List Int} {y : AV} {v : Value} {b : Nat} (hy : VR φ y v) : ERs φ (es ++ [(ks, y, b)]) (fs ++ [{ key := .agg (intsV ks), val := v, born := b }]) := by
  refine ERs.of (by simp [he.length]) fun i e' f' he' hf' => ?_
  have hl := he.length
  rcases Nat.lt_or_ge i es.length with hi | hi
  · rw [List.getElem?_append_left hi] at he'
    rw [List.getElem?_append_left (by omega)] at hf'
    obtain ⟨f, h1, h2, h3, h4⟩ := he.get he'
    rw [hf'] at h1
    cases h1
    exact ⟨h2, h3, h4⟩
  · have hi2 : i = es.length := by have := (List.getElem?_eq_some_iff.1 he').1; simp at this; omega
    subst hi2
    rw [List.getElem?_append_right (Nat.le_refl _), Nat.sub_self] at he'
    rw [List.getElem?_append_right (by omega), hl, Nat.sub_self] at hf'
    simp at he' hf'
    subst he' hf'
    exact ⟨rfl, hy, rfl⟩
omit [Val] [Bet] in
theorem nodup_snoc {es : List (List Int × AV × Nat)} (hn : (es.map (·.1)).Nodup) {ks : List Int} {y : AV} {b : Nat} (hno : ∀ e ∈ es, e.1 ≠ ks) : ((es ++ [(ks, y, b)]).map (·.1)).Nodup := by
  rw [List.map_append, List.nodup_append]
  refine ⟨hn, by simp, fun a ha b' hb => ?_⟩
  simp at hb
  subst hb
  obtain ⟨e, he, rfl⟩ := List.mem_map.1 ha
  exact hno e he
omit [Val] [Bet] in
theorem mem_snoc {es : List (List Int × AV × Nat)} {n : Nat} (hw : ∀ e ∈ es, e.1.length = n ∧ ∀ x ∈ e.1, (Lit.int .i64 x).wf = true) {ks : List Int} {y : AV} {b : Nat} (hl : ks.length = n) (hwf : ∀ x ∈ ks, (Lit.int .i64 x).wf = true) :
    ∀ e' ∈ es ++ [(ks, y, b)], e'.1.length = n ∧ ∀ x ∈ e'.1, (Lit.int .i64 x).wf = true := by
  intro e' he'
  rcases List.mem_append.1 he' with h | h
  · exact hw e' h
  · simp at h; subst h; exact ⟨hl, hwf⟩
theorem updK_some (HT : TabOK E) (HK : KeysOK E) (hR : R φ h w) {t : Nat} {m x y : AV} {mv xv yv : Value} {k : AH → Option β} (hm : VR φ m mv) (hx : VR φ x xv) (hy : VR φ y yv) (he : updK none E t m x y h k = some r) :
    GoodU E.P (Instr.mapUpdate t mv xv yv) φ h w k r := by
  obtain ⟨kt, et, hu, h1⟩ := mapTK_some HT he
  obtain ⟨ks, n, h2, rfl, K, hl, hwf⟩ := keyK_some HK h1 hx
  cases hm <;> try (cases h2; done)
  rename_i i g d hp
  obtain ⟨n', es, cl, ces, h5, h6, hg, hes, hnd, hew⟩ := mapK_some hR hp h2
  cases hb : lenIB ks n' with
  | false => rw [hb] at h6; cases h6
  | true =>
    rw [hb, ite_true_] at h6
    have hn : ks.length = n' := lenIB_eq ks n' hb
    subst hl
    subst hn
    obtain ⟨l, hkey⟩ := K.keyOf ks rfl hwf
    obtain ⟨f1, f2⟩ := find_conc K w hes hew hnd rfl hwf
    have hchk := K.keyed.check w false hkey
    rcases editK_eq es (byKey ks) (withVal y) (updK.entryAppK es (ks, y, cl) fun es' => natK (Nat.succ cl) fun cl' => setHK none h i (.map ks.length es' cl') k) (fun es' => setHK none h i (.map ks.length es' cl) k) with ⟨h7, h8⟩ | ⟨j, e, h7, h8, _, h9⟩
    · rw [h7, entryAppK_eq, natK_eq] at h6
      have hno : ∀ e ∈ es, e.1 ≠ ks := fun e he => by have := h8 e he; unfold byKey at this; rw [keyEq_eq] at this; simpa using this
      obtain ⟨h', h10, h11, h12⟩ := setHK_some h6
      obtain ⟨s1, s2, s3⟩ := set_facts hg (.map (ces.push { key := .agg (intsV ks), val := yv, born := cl }) (cl + 1))
      obtain ⟨r1, r2⟩ := hR.set_ (w' := { w with heap := w.heap.setIfInBounds g (.map (ces.push { key := .agg (intsV ks), val := yv, born := cl }) (cl + 1)) }) h5 hp h10 s1 s2 s3 h11
        ⟨_, rfl, by rw [Array.toList_push]; exact hes.snoc hy, nodup_snoc hnd hno, mem_snoc hew rfl hwf⟩ rfl rfl rfl
      refine ⟨φ, h', _, h12, ?_, r1, r2⟩
      unfold Instr.mapUpdate
      simp only [Sem.run_bind, hu, Result.andThen, run_getObj_map hg, hchk, f1 hno, run_setObj_map hg]
    · rw [h9] at h6
      replace h6 : setHK none h i (.map ks.length (es.set j (e.1, y, e.2.2)) cl) k = some r := h6
      have hek : e.1 = ks := by unfold byKey at h8; rw [keyEq_eq] at h8; simpa using h8
      obtain ⟨h', h10, h11, h12⟩ := setHK_some h6
      obtain ⟨f, h13, h14, h15, h16⟩ := hes.get h7
      have hstay := K.keyed.stays w hkey
      have hfk : ((ces[j]?).map (·.key)).getD (.agg (intsV ks)) = .agg (intsV ks) := by
        have : ces[j]? = some f := by simpa using h13
        rw [this]
        simp [h14, hek]
      obtain ⟨s1, s2, s3⟩ := set_facts hg (.map (ces.modify j fun e => { e with key := .agg (intsV ks), val := yv }) cl)
      obtain ⟨r1, r2⟩ := hR.set_ (w' := { w with heap := w.heap.setIfInBounds g (.map (ces.modify j fun e => { e with key := .agg (intsV ks), val := yv }) cl) }) h5 hp h10 s1 s2 s3 h11
        ⟨_, rfl, by
          rw [Array.toList_modify]
          refine hes.set_ h7 hy fun f' hf' => ⟨?_, rfl, rfl⟩
          rw [h13] at hf'
          cases hf'
          rw [h14, hek], by rw [map_set_keys h7]; exact hnd, mem_set_keys h7 hew⟩ rfl rfl rfl
      refine ⟨φ, h', _, h12, ?_, r1, r2⟩
      unfold Instr.mapUpdate
      simp only [Sem.run_bind, hu, Result.andThen, run_getObj_map hg, hchk, f2 j e f h7 hek h13, hfk, hstay, run_setObj_map hg]
end
end Go.Proofs.YtibmpjhffeinoaaGreat.Kx

namespace Go.Proofs.YtibmpjhffeinoaaGreat.Kx
open Go Go.Maps
variable [Val] [Bet]

noncomputable section
variable {β : Type} {E : Env} {P : Program} {φ : Phi} {h : AH} {w : World} {r : β}

def entK (d : β) (E : Env) (t : Nat) (m x : AV) (h : AH) (k : AV → AH → β) : β := mapTK d E t fun kt et => keyK d E kt x fun ks => tabK d E et fun ti => match m with
  | .mp (some i) => mapK d h i fun n es cl => ite_ (lenIB ks n)
      (findK es ks (zeroK d ti fun z => updK.entryAppK es (ks, z, cl) fun es' => natK (Nat.succ cl) fun cl' => setHK d h i (.map n es' cl') fun h' => k (.tup [z, .int .i64 (.ofNat cl)]) h')
        (fun v b => setHK d h i (.map n es cl) fun h' => k (.tup [v, .int .i64 (.ofNat b)]) h')) d
  | _ => d
theorem entK_some (HT : TabOK E) (HK : KeysOK E) (hR : R φ h w) {t : Nat} {m x : AV} {mv xv : Value} {k : AV → AH → Option β} (hm : VR φ m mv) (hx : VR φ x xv) (he : entK none E t m x h k = some r) :
    Good E.P (Instr.mapEntry t mv xv) φ h w k r := by
  obtain ⟨kt, et, hu, h1⟩ := mapTK_some HT he
  obtain ⟨ks, n, h2, rfl, K, hl, hwf⟩ := keyK_some HK h1 hx
  obtain ⟨ti, h3, h4⟩ := getK_some h2
  cases hm <;> try (cases h4; done)
  rename_i i g d hp
  obtain ⟨n', es, cl, ces, h5, h6, hg, hes, hnd, hew⟩ := mapK_some hR hp h4
  cases hb : lenIB ks n' with
  | false => rw [hb] at h6; cases h6
  | true =>
    rw [hb, ite_true_] at h6
    have hn : ks.length = n' := lenIB_eq ks n' hb
    subst hl
    subst hn
    obtain ⟨l, hkey⟩ := K.keyOf ks rfl hwf
    obtain ⟨f1, f2⟩ := find_conc K w hes hew hnd rfl hwf
    have hchk := K.keyed.check w false hkey
    rcases findK_eq es ks (zeroK none ti fun z => updK.entryAppK es (ks, z, cl) fun es' => natK (Nat.succ cl) fun cl' => setHK none h i (.map ks.length es' cl') fun h' => k (.tup [z, .int .i64 (.ofNat cl)]) h')
        (fun v b => setHK none h i (.map ks.length es cl) fun h' => k (.tup [v, .int .i64 (.ofNat b)]) h') with ⟨h7, h8⟩ | ⟨j, e, h7, h8, h9⟩
    · rw [h7] at h6
      obtain ⟨z, zv, h10, h11, h12⟩ := zeroK_some HT h3 h6 φ
      rw [entryAppK_eq, natK_eq] at h10
      obtain ⟨h', h13, h14, h15⟩ := setHK_some h10
      obtain ⟨s1, s2, s3⟩ := set_facts hg (.map (ces.push { key := .agg (intsV ks), val := zv, born := cl }) (cl + 1))
      obtain ⟨r1, r2⟩ := hR.set_ (w' := { w with heap := w.heap.setIfInBounds g (.map (ces.push { key := .agg (intsV ks), val := zv, born := cl }) (cl + 1)) }) h5 hp h13 s1 s2 s3 h14
        ⟨_, rfl, by rw [Array.toList_push]; exact hes.snoc h11, nodup_snoc hnd h8, mem_snoc hew rfl hwf⟩ rfl rfl rfl
      refine ⟨φ, h', _, _, .tuple #[zv, .int .i64 (.ofNat cl)], h15, ?_, .tup _ _ (.cons _ _ _ _ h11 (.cons _ _ _ _ (.int _ _) .nil)), r1, r2⟩
      unfold Instr.mapEntry
      simp only [Sem.run_bind, hu, Result.andThen, run_getObj_map hg, hchk, f1 h8, h12, run_setObj_map hg]
      rfl
    · rw [h9] at h6
      obtain ⟨h', h10, h11, h12⟩ := setHK_some h6
      obtain ⟨f, h13, h14, h15, h16⟩ := hes.get h7
      have hstay := K.keyed.stays w hkey
      have hcf : ces[j]? = some f := by simpa using h13
      have hfk : ((ces[j]?).map (·.key)).getD (.agg (intsV ks)) = .agg (intsV ks) := by
        rw [hcf]
        simp [h14, h8]
      obtain ⟨s1, s2, s3⟩ := set_facts hg (.map (ces.modify j fun e => { e with key := .agg (intsV ks) }) cl)
      have hsame : es.set j (e.1, e.2.1, e.2.2) = es := by
        apply List.ext_getElem?
        intro i
        rw [List.getElem?_set]
        by_cases hij : j = i
        · subst hij
          rw [if_pos rfl, if_pos (List.getElem?_eq_some_iff.1 h7).1, h7]
        · rw [if_neg hij]
      obtain ⟨r1, r2⟩ := hR.set_ (w' := { w with heap := w.heap.setIfInBounds g (.map (ces.modify j fun e => { e with key := .agg (intsV ks) }) cl) }) h5 hp h10 s1 s2 s3 h11
        ⟨_, rfl, by
          rw [Array.toList_modify, ← hsame]
          refine hes.set_ h7 h15 fun f' hf' => ⟨?_, ?_, rfl⟩
          · rw [h13] at hf'
            cases hf'
            rw [h14, h8]
          · rw [h13] at hf'
            cases hf'
            rfl, hnd, hew⟩ rfl rfl rfl
      refine ⟨φ, h', _, _, .tuple #[f.val, .int .i64 (.ofNat e.2.2)], h12, ?_, .tup _ _ (.cons _ _ _ _ h15 (.cons _ _ _ _ (.int _ _) .nil)), r1, r2⟩
      unfold Instr.mapEntry
      simp only [Sem.run_bind, hu, Result.andThen, run_getObj_map hg, hchk, f2 j e f h7 h8 h13, hcf, Option.map_some, Option.getD_some, h14, h8, hstay, run_setObj_map hg]
      simp [goInt, h16]
def byBorn (b : Nat) (e : List Int × AV × Nat) : Bool := Nat.beq e.2.2 b
def entStoreK (d : β) (m s y : AV) (h : AH) (k : AH → β) : β := match m, s with
  | .mp (some i), .int _ (.ofNat b) => mapK d h i fun n es cl => editK es (byBorn b) (withVal y) d fun es' => setHK d h i (.map n es' cl) k
  | _, _ => d
theorem entStoreK_some (hR : R φ h w) {t : Nat} {m s y : AV} {mv sv yv : Value} {k : AH → Option β} (hm : VR φ m mv) (hs : VR φ s sv) (hy : VR φ y yv) (he : entStoreK none m s y h k = some r) :
    GoodU P (Instr.entryStore t mv sv yv) φ h w k r := by
  unfold entStoreK at he
  split at he
  · rename_i i kd b
    cases hm
    rename_i g d hp
    cases hs
    obtain ⟨n, es, cl, ces, h5, h6, hg, hes, hnd, hew⟩ := mapK_some hR hp he
    rcases editK_eq es (byBorn b) (withVal y) none (fun es' => setHK none h i (.map n es' cl) k) with ⟨h7, h8⟩ | ⟨j, e, h7, h8, hfirst, h9⟩
    · rw [h7] at h6; cases h6
    · rw [h9] at h6
      replace h6 : setHK none h i (.map n (es.set j (e.1, y, e.2.2)) cl) k = some r := h6
      obtain ⟨h', h10, h11, h12⟩ := setHK_some h6
      obtain ⟨f, h13, h14, h15, h16⟩ := hes.get h7
      have hcf : ces[j]? = some f := by simpa using h13
      have hfind : ces.findIdx? (fun e => (e.born : Int) == (Int.ofNat b)) = some j := by
        rw [Array.findIdx?_eq_some_iff_getElem]
        obtain ⟨hj, hjf⟩ := Array.getElem?_eq_some_iff.1 hcf
        refine ⟨hj, ?_, fun i' hi' => ?_⟩
        · rw [hjf, h16]
          unfold byBorn at h8
          rw [beq_dec] at h8
          simp at h8 ⊢
          omega
        · obtain ⟨e', h17, h18, h19, h20⟩ := hes.get' (j := i') (f := ces[i']) (by simp)
          have := hfirst i' hi' e' h17
          unfold byBorn at this
          rw [beq_dec] at this
          simp at this
          rw [h20]
          simp
          omega
      obtain ⟨s1, s2, s3⟩ := set_facts hg (.map (ces.modify j fun e => { e with val := yv }) cl)
      obtain ⟨r1, r2⟩ := hR.set_ (w' := { w with heap := w.heap.setIfInBounds g (.map (ces.modify j fun e => { e with val := yv }) cl) }) h5 hp h10 s1 s2 s3 h11
        ⟨_, rfl, by
          rw [Array.toList_modify]
          exact hes.set_ h7 hy fun f' hf' => ⟨rfl, rfl, rfl⟩, by rw [map_set_keys h7]; exact hnd, mem_set_keys h7 hew⟩ rfl rfl rfl
      refine ⟨φ, h', _, h12, ?_, r1, r2⟩
      unfold Instr.entryStore
      simp only [Sem.run_bind, Result.andThen, run_getObj_map hg, Sem.run_pure, asInt, asIntOf, hfind, run_setObj_map hg]
  · cases he
omit [Val] [Bet] in
theorem ite_some_ {b : Bool} {x : Option β} (h : ite_ b x none = some r) : b = true ∧ x = some r := by
  cases b with
  | false => cases h
  | true => exact ⟨rfl, h⟩
def dropKeyK (ks : List Int) (es : List (List Int × AV × Nat)) : (List (List Int × AV × Nat) → β) → β := List.rec (motive := fun _ => (List (List Int × AV × Nat) → β) → β) (fun k => k []) (fun e _ ih k => ite_ (keyEq e.1 ks) (ih k) (ih fun es => k (e :: es))) es
def otherKey (ks : List Int) (e : List Int × AV × Nat) : Bool := !decide (e.1 = ks)
omit [Val] [Bet] in
theorem dropKeyK_eq (ks : List Int) (es : List (List Int × AV × Nat)) : ∀ k : List (List Int × AV × Nat) → β, dropKeyK ks es k = k (es.filter (otherKey ks)) := by
  induction es with
  | nil => intro k; rfl
  | cons e es ih =>
    intro k
    show ite_ (keyEq e.1 ks) (dropKeyK ks es k) (dropKeyK ks es fun es => k (e :: es)) = _
    rw [ih, ih, keyEq_eq, List.filter_cons]
    unfold otherKey
    by_cases h : e.1 = ks
    · rw [decide_eq_true h]; rfl
    · rw [decide_eq_false h]; rfl
omit [Val] [Bet] in
theorem eraseIdx_other {ks : List Int} (es : List (List Int × AV × Nat)) : ∀ {j : Nat} {e : List Int × AV × Nat}, (es.map (·.1)).Nodup → es[j]? = some e → e.1 = ks → es.eraseIdx j = es.filter (otherKey ks) := by
  induction es with
  | nil => intro j e _ h; simp at h
  | cons x es ih =>
    intro j e hn hj hk
    rw [List.map_cons, List.nodup_cons] at hn
    cases j with
    | zero =>
      simp at hj
      subst hj
      have h1 : es.filter (otherKey ks) = es := List.filter_eq_self.2 fun y hy => by
        unfold otherKey
        rw [decide_eq_false]
        · rfl
        · intro e
          exact hn.1 (by rw [hk, ← e]; exact List.mem_map_of_mem hy)
      rw [List.eraseIdx_cons_zero, List.filter_cons, h1]
      unfold otherKey
      rw [decide_eq_true hk]
      rfl
    | succ j =>
      have hj' : es[j]? = some e := by simpa using hj
      rw [List.eraseIdx_cons_succ, ih hn.2 hj' hk, List.filter_cons]
      have : x.1 ≠ ks := fun e' => hn.1 (by rw [e', ← hk]; exact List.mem_map_of_mem (List.mem_of_getElem? hj'))
      unfold otherKey
      rw [decide_eq_false this]
      rfl
def delGK (d : β) (i : Nat) (ks : List Int) (h : AH) (k : AV → AH → β) (old : β) (ao : AO) : β := match ao with
  | .mapG n es cl => ite_ (lenIB ks n) (dropKeyK ks es fun es' => setHK d h i (.mapG n es' cl) fun h' => k (.tup []) h') d
  | _ => old
def delMK (d : β) (E : Env) (t : Nat) (m x : AV) (h : AH) (k : AV → AH → β) : β := mapTK d E t fun kt _ => keyK d E kt x fun ks => match m with
  | .mp (some i) => getK d h.t i (delGK d i ks h k (mapK d h i fun n es cl => ite_ (lenIB ks n) (editK es (byKey ks) (fun _ => none) (setHK d h i (.map n es cl) fun h' => k (.tup []) h') fun es' => setHK d h i (.map n es' cl) fun h' => k (.tup []) h') d))
  | _ => d
omit [Bet] in
theorem ERs.erase {es : List (List Int × AV × Nat)} {fs : List MapEntry} (he : ERs φ es fs) (j : Nat) : ERs φ (es.eraseIdx j) (fs.eraseIdx j) := by
  refine ERs.of (by simp [List.length_eraseIdx, he.length]) fun i e f h1 h2 => ?_
  rw [List.getElem?_eraseIdx] at h1 h2
  split at h1
  · rename_i hlt
    rw [if_pos hlt] at h2
    obtain ⟨g, h3, h4⟩ := he.get h1
    rw [h2] at h3
    cases h3
    exact h4
  · rename_i hlt
    rw [if_neg hlt] at h2
    obtain ⟨g, h3, h4⟩ := he.get h1
    rw [h2] at h3
    cases h3
    exact h4
theorem delMK_some (HT : TabOK E) (HK : KeysOK E) (hR : R φ h w) {t u ty : Nat} {m x : AV} {mv xv : Value} {k : AV → AH → Option β} (hm : VR φ m mv) (hx : VR φ x xv) (he : delMK none E t m x h k = some r) :
    Good E.P (Builtin.delete_ #[t, u] ty #[mv, xv]) φ h w k r := by
  obtain ⟨kt, et, hu, h1⟩ := mapTK_some HT he
  obtain ⟨ks, n, h2, rfl, K, hl, hwf⟩ := keyK_some HK h1 hx
  cases hm <;> try (cases h2; done)
  rename_i i g d hp
  obtain ⟨ao, ha1, ha2⟩ := getK_some h2
  unfold delGK at ha2
  split at ha2
  · rename_i n' es cl
    obtain ⟨hb, h6⟩ := ite_some_ ha2
    rw [dropKeyK_eq] at h6
    have h5 := AH.get_of ha1 (by simp)
    obtain ⟨g', d', o, e1, hg, ces, rfl, hes, hnd, hew⟩ := hR.obj i _ h5
    rw [hp] at e1
    cases e1
    have hn : ks.length = n' := lenIB_eq ks n' hb
    subst hl
    subst hn
    obtain ⟨l, hkey⟩ := K.keyOf ks rfl hwf
    have hsub : ((es.filter keepE).map (·.1)).Nodup := (List.filter_sublist.map _).nodup hnd
    obtain ⟨f1, f2⟩ := find_conc K w hes (fun e he => hew e (List.mem_filter.1 he).1) hsub rfl hwf
    have hchk := K.keyed.check w ces.isEmpty hkey
    obtain ⟨h', h10, h11, h12⟩ := setHK_some h6
    have hcomm : (es.filter (otherKey ks)).filter keepE = (es.filter keepE).filter (otherKey ks) := by
      rw [List.filter_filter, List.filter_filter]
      congr 1
      funext e
      exact Bool.and_comm _ _
    have hnd' : ((es.filter (otherKey ks)).map (·.1)).Nodup := (List.filter_sublist.map _).nodup hnd
    by_cases hex : ∃ e ∈ es.filter keepE, e.1 = ks
    · obtain ⟨e, he1, he2⟩ := hex
      obtain ⟨j, hj⟩ := List.getElem?_of_mem he1
      obtain ⟨f, h13, h14, h15, h16⟩ := hes.get hj
      obtain ⟨s1, s2, s3⟩ := set_facts hg (.map (ces.eraseIdxIfInBounds j) cl)
      have hjc : j < ces.size := by simpa using (List.getElem?_eq_some_iff.1 h13).1
      obtain ⟨r1, r2⟩ := hR.set_ (w' := { w with heap := w.heap.setIfInBounds g (.map (ces.eraseIdxIfInBounds j) cl) }) h5 hp h10 s1 s2 s3 h11
        ⟨_, rfl, by
          unfold Array.eraseIdxIfInBounds
          rw [dif_pos hjc, Array.toList_eraseIdx, hcomm, ← eraseIdx_other _ hsub hj he2]
          exact hes.erase j, hnd', fun e' he' => hew e' (List.mem_filter.1 he').1⟩ rfl rfl rfl
      refine ⟨φ, h', _, _, .tuple #[], h12, ?_, .tup _ _ .nil, r1, r2⟩
      unfold Builtin.delete_
      simp [hu, run_getObj_map hg, hchk, f2 j e f hj he2 h13, run_setObj_map hg]
    · have hno : ∀ e ∈ es.filter keepE, e.1 ≠ ks := fun e he e' => hex ⟨e, he, e'⟩
      obtain ⟨s1, s2, s3⟩ := set_facts hg (.map ces cl)
      obtain ⟨r1, r2⟩ := hR.set_ (w' := { w with heap := w.heap.setIfInBounds g (.map ces cl) }) h5 hp h10 s1 s2 s3 h11 ⟨_, rfl, by
          rw [hcomm, List.filter_eq_self.2 fun e he => by
            unfold otherKey
            rw [decide_eq_false (hno e he)]
            rfl]
          exact hes, hnd', fun e' he' => hew e' (List.mem_filter.1 he').1⟩ rfl rfl rfl
      refine ⟨φ, h', _, _, .tuple #[], h12, ?_, .tup _ _ .nil, r1, r2⟩
      unfold Builtin.delete_
      simp [hu, run_getObj_map hg, hchk, f1 hno, run_setObj_map hg]
  obtain ⟨n', es, cl, ces, h5, h6, hg, hes, hnd, hew⟩ := mapK_some hR hp ha2
  cases hb : lenIB ks n' with
  | false => rw [hb] at h6; cases h6
  | true =>
    rw [hb, ite_true_] at h6
    have hn : ks.length = n' := lenIB_eq ks n' hb
    subst hl
    subst hn
    obtain ⟨l, hkey⟩ := K.keyOf ks rfl hwf
    obtain ⟨f1, f2⟩ := find_conc K w hes hew hnd rfl hwf
    have hchk := K.keyed.check w ces.isEmpty hkey
    rcases editK_eq es (byKey ks) (fun _ => none) (setHK none h i (.map ks.length es cl) fun h' => k (.tup []) h') (fun es' => setHK none h i (.map ks.length es' cl) fun h' => k (.tup []) h') with ⟨h7, h8⟩ | ⟨j, e, h7, h8, _, h9⟩
    · rw [h7] at h6
      have hno : ∀ e ∈ es, e.1 ≠ ks := fun e he => by have := h8 e he; unfold byKey at this; rw [keyEq_eq] at this; simpa using this
      obtain ⟨h', h10, h11, h12⟩ := setHK_some h6
      obtain ⟨s1, s2, s3⟩ := set_facts hg (.map ces cl)
      obtain ⟨r1, r2⟩ := hR.set_ (w' := { w with heap := w.heap.setIfInBounds g (.map ces cl) }) h5 hp h10 s1 s2 s3 h11 ⟨_, rfl, hes, hnd, hew⟩ rfl rfl rfl
      refine ⟨φ, h', _, _, .tuple #[], h12, ?_, .tup _ _ .nil, r1, r2⟩
      unfold Builtin.delete_
      simp [hu, run_getObj_map hg, hchk, f1 hno, run_setObj_map hg]
    · rw [h9] at h6
      replace h6 : setHK none h i (.map ks.length (es.eraseIdx j) cl) (fun h' => k (.tup []) h') = some r := h6
      have hek : e.1 = ks := by unfold byKey at h8; rw [keyEq_eq] at h8; simpa using h8
      obtain ⟨h', h10, h11, h12⟩ := setHK_some h6
      obtain ⟨f, h13, h14, h15, h16⟩ := hes.get h7
      obtain ⟨s1, s2, s3⟩ := set_facts hg (.map (ces.eraseIdxIfInBounds j) cl)
      have hjc : j < ces.size := by simpa using (List.getElem?_eq_some_iff.1 h13).1
      obtain ⟨r1, r2⟩ := hR.set_ (w' := { w with heap := w.heap.setIfInBounds g (.map (ces.eraseIdxIfInBounds j) cl) }) h5 hp h10 s1 s2 s3 h11
        ⟨_, rfl, by
          unfold Array.eraseIdxIfInBounds
          rw [dif_pos hjc, Array.toList_eraseIdx]
          exact hes.erase j, (List.eraseIdx_sublist _ _).map _ |>.nodup hnd, fun e' he' => hew e' ((List.eraseIdx_sublist _ _).mem he')⟩ rfl rfl rfl
      refine ⟨φ, h', _, _, .tuple #[], h12, ?_, .tup _ _ .nil, r1, r2⟩
      unfold Builtin.delete_
      simp [hu, run_getObj_map hg, hchk, f2 j e f h7 hek h13, run_setObj_map hg]
def lenEK {α β : Type} (es : List α) : (Nat → β) → β := List.rec (motive := fun _ => (Nat → β) → β) (fun k => k 0) (fun _ _ ih k => ih fun n => k (Nat.succ n)) es
omit [Val] [Bet] in
theorem lenEK_eq {α β : Type} (es : List α) : ∀ k : Nat → β, lenEK es k = k es.length := by
  induction es with
  | nil => intro k; rfl
  | cons x es ih => intro k; exact ih fun n => k (Nat.succ n)
def makeMapK (d : β) (E : Env) (t : Nat) (h : AH) (k : AV → AH → β) : β := mapTK d E t fun kt _ => getK d E.eqs kt fun n => newHK d h (.map n [] 0) fun h' => k (.mp (some h.nx)) h'
theorem makeMapK_some (hR : R φ h w) {t : Nat} {k : AV → AH → Option β} (HT : TabOK E) (he : makeMapK none E t h k = some r) : Good E.P (Instr.makeMap t none) φ h w k r := by
  obtain ⟨kt, et, hu, h1⟩ := mapTK_some HT he
  obtain ⟨n, h2, h3⟩ := getK_some h1
  obtain ⟨h', h4, h5, h6⟩ := newHK_some h3
  obtain ⟨r1, r2⟩ := hR.new_ (z := 0) (o := .map #[] 0) (w' := w.alloc (.map #[] 0)) h4 rfl h5 ⟨#[], rfl, trivial, List.nodup_nil, fun e he => by cases he⟩ rfl rfl rfl
  refine ⟨_, h', _, _, .map (some w.heap.size), h6, ?_, .mp _ _ _ (Phi.upd_same _ _), r1, r2⟩
  simp [Instr.makeMap, newObj, Sem.run]
/-- The beginning of a loop over a map. -/
def rangeOpK (d : β) (E : Env) (t : Nat) (x : AV) (h : AH) (k : AV → AH → β) : β := mapTK d E t fun _ _ => match x with
  | .mp (some i) => mapK d h i fun _ _ cl => newHK d h (.iter i cl) fun h' => k (.ptr (some (h.nx, 0))) h'
  | _ => d
theorem rangeOpK_some (hR : R φ h w) {t : Nat} {x : AV} {xv : Value} {k : AV → AH → Option β} (HT : TabOK E) (hx : VR φ x xv) (he : rangeOpK none E t x h k = some r) : Good E.P (Instr.range t xv) φ h w k r := by
  obtain ⟨kt, et, hu, h1⟩ := mapTK_some HT he
  split at h1
  · rename_i i
    cases hx
    rename_i g d hp
    obtain ⟨n, es, cl, ces, h2, h3, hg, _⟩ := mapK_some hR hp h1
    obtain ⟨h', h4, h5, h6⟩ := newHK_some h3
    have hx := Phi.upd_ext (p := (w.heap.size, 0, 0)) hR.fresh
    obtain ⟨r1, r2⟩ := hR.new_ (z := 0) (o := .mapIter (some g) cl #[] cl) (w' := w.alloc (.mapIter (some g) cl #[] cl)) h4 rfl h5 ⟨rfl, g, d, rfl, hx _ _ hp⟩ rfl rfl rfl
    refine ⟨_, h', _, _, .pointer (some ⟨w.heap.size, 0, none⟩), h6, ?_, ?_, r1, r2⟩
    · unfold Instr.range
      simp only [Sem.run_bind, hu, Result.andThen, run_getObj_map hg, Sem.run_pure]
      simp [newObj, Sem.run]
    · exact .ptr _ 0 _ (0, 0) (Phi.upd_same _ _)
  · cases h1
end
end Go.Proofs.YtibmpjhffeinoaaGreat.Kx

namespace Go.Proofs.YtibmpjhffeinoaaGreat.Kx
open Go
variable [Val] [Bet]

noncomputable section
variable {β : Type} {E : Env} {φ : Phi} {h : AH} {w : World} {r : β}

omit [Bet] in
theorem tabK_some (HT : TabOK E) {t : Nat} {k : TI → Option β} (he : tabK none E t k = some r) : ∃ ti i dsc z, E.tab.get t = some ti ∧ TIok E.P t ti i dsc z ∧ k ti = some r := by
  obtain ⟨ti, h1, h2⟩ := getK_some he
  obtain ⟨i, dsc, z, T⟩ := HT.1 _ _ h1
  exact ⟨ti, i, dsc, z, h1, T, h2⟩
def lenAB (xs : List AV) : Nat → Bool := List.rec (motive := fun _ => Nat → Bool) (fun n => Nat.beq n 0) (fun _ _ ih n => Nat.rec (motive := fun _ => Bool) false (fun m _ => stp (ih m)) n) xs
omit [Val] [Bet] in
theorem lenAB_eq (xs : List AV) : ∀ n, lenAB xs n = true → xs.length = n := by
  induction xs with
  | nil => intro n h; have : Nat.beq n 0 = true := h; rw [beq_dec] at this; simp at this; simp [this]
  | cons x xs ih =>
    intro n h
    cases n with
    | zero => cases h
    | succ n => have := ih n h; simp [this]
def cellsAVK (d : β) (y : AV) (k : List AV → β) : β := match y with
  | .agg cs => k cs
  | .tup _ => d
  | .any => d
  | x => k [x]
omit [Bet] in
theorem cellsAVK_some {y : AV} {v : Value} {k : List AV → Option β} (he : cellsAVK none y k = some r) (hy : VR φ y v) : ∃ cs, k cs = some r ∧ VRs φ cs v.cells.toList := by
  unfold cellsAVK at he
  split at he
  · cases hy with
    | agg _ us hus => exact ⟨_, he, hus⟩
  · cases he
  · cases he
  · rename_i h1 h2 h3
    refine ⟨_, he, ?_⟩
    have : v.cells.toList = [v] := by
      cases hy <;> first | rfl | (exact absurd rfl (h1 _)) | (exact absurd rfl (h2 _)) | (exact absurd rfl h3)
    rw [this]
    exact .cons _ _ _ _ hy .nil

/-! ### Loads and stores -/
def oneOfK (d : β) (cs : List AV) (k : AV → β) : β := match cs with
  | [x] => k x
  | _ => d
def loadOpK (d : β) (E : Env) (t : Nat) (x : AV) (h : AH) (k : AV → AH → β) : β := match x with
  | .ptr (some (i, o)) => tabK d E t fun ti => loadK d h i o ti.size fun cs => ite_ ti.d.agg (k (.agg cs) h) (oneOfK d cs fun x => k x h)
  | _ => d
theorem loadOpK_some (HT : TabOK E) (hR : R φ h w) {t : Nat} {x : AV} {xv : Value} {k : AV → AH → Option β} (hx : VR φ x xv) (he : loadOpK none E t x h k = some r) : GoodS E.P (Instr.loadAt t xv) φ h w k r := by
  unfold loadOpK at he
  split at he
  · rename_i i o
    cases hx
    rename_i g d hp
    obtain ⟨ti, inf, dsc, z, _, T, h1⟩ := tabK_some HT he
    obtain ⟨xs, us, h2, h3, h4, h5, h6⟩ := loadK_some h1 hR hp
    have hl : us.length = ti.size := by rw [← h4.length, h2]
    have hrun := run_load_n (P := E.P) hl h5
    cases ha : ti.d.agg with
    | true =>
      rw [ha, ite_true_] at h3
      refine ⟨_, .agg us.toArray, h3, ?_, .agg _ _ (by simpa using h4)⟩
      unfold Instr.loadAt Instr.sureAddr loadVar
      simp only [Sem.run_bind, Sem.run_pure, Result.andThen, T.run_agg, ha, if_true, T.run_size, hrun]
    | false =>
      rw [ha, ite_false_] at h3
      unfold oneOfK at h3
      split at h3
      · rename_i y
        cases h4 with
        | cons _ v _ vs h7 h8 =>
          cases h8
          refine ⟨_, v, h3, ?_, h7⟩
          have hc := h5 0 v rfl
          rw [add_at, Nat.add_zero] at hc
          unfold Instr.loadAt Instr.sureAddr loadVar
          simp only [Sem.run_bind, Sem.run_pure, Result.andThen, T.run_agg, ha, if_false, Bool.false_eq_true]
          simp [load, Sem.run, hc]
      · cases h3
  · cases he
def storeOpK (d : β) (E : Env) (t : Nat) (x y : AV) (h : AH) (k : AH → β) : β := match x with
  | .ptr (some (i, o)) => tabK d E t fun ti => cellsAVK d y fun cs => ite_ (lenAB cs ti.size) (storeK d h i o cs k) d
  | _ => d
theorem storeOpK_some (HT : TabOK E) (hR : R φ h w) {t : Nat} {x y : AV} {xv yv : Value} {k : AH → Option β} (hx : VR φ x xv) (hy : VR φ y yv) (he : storeOpK none E t x y h k = some r) : GoodU E.P (Instr.storeAt t xv yv) φ h w k r := by
  unfold storeOpK at he
  split at he
  · rename_i i o
    cases hx
    rename_i g d hp
    obtain ⟨ti, inf, dsc, z, _, T, h1⟩ := tabK_some HT he
    obtain ⟨cs, h2, h3⟩ := cellsAVK_some h1 hy
    cases hb : lenAB cs ti.size with
    | false => rw [hb] at h2; cases h2
    | true =>
      rw [hb, ite_true_] at h2
      have hl := lenAB_eq cs _ hb
      obtain ⟨h', w', h4, h5, h6, h7⟩ := storeK_some (P := E.P) h2 hR hp h3
      refine ⟨φ, h', w', h4, ?_, h6, h7⟩
      have hsz : yv.cells.size = ti.size := by rw [← hl, h3.length, Array.length_toList]
      unfold Instr.storeAt Instr.sureAddr storeVar
      simp [T.run_size, hsz, h5]
  · cases he
def allocK (d : β) (E : Env) (t : Nat) (h : AH) (k : AV → AH → β) : β := tabK d E t fun ti => newHK d h (.cells ti.zero) fun h' => k (.ptr (some (h.nx, 0))) h'
omit [Bet] in
theorem ptr_new {φ' : Phi} {i n z : Nat} (hp : φ' i = some (n, 0, z)) : VR φ' (.ptr (some (i, 0))) (.pointer (some ⟨n, 0, none⟩)) := .ptr i 0 n (0, z) hp
theorem allocK_some (HT : TabOK E) (hR : R φ h w) {t : Nat} {k : AV → AH → Option β} (he : allocK none E t h k = some r) : Good E.P (Instr.alloc t true (.tuple #[])) φ h w k r := by
  obtain ⟨ti, inf, dsc, z, _, T, h1⟩ := tabK_some HT he
  obtain ⟨h', φ', h2, h3, h4, h5⟩ := newHK_cells h1 t hR (T.zs.ext (phi0_ext φ)) (T.zs.ones T.ones)
  refine ⟨φ', h', _, _, .pointer (some ⟨w.heap.size, 0, none⟩), h2, ?_, ptr_new h3, h4, h5⟩
  unfold Instr.alloc
  simp [T.run_zero, newVar, newRow, newObj, Sem.run]
def boxK (d : β) (y : AV) (h : AH) (k : AV → AH → β) : β := cellsAVK d y fun cs => ite_ (allB oneB cs) (newHK d h (.cells cs) fun h' => k (.ptr (some (h.nx, 0))) h') d
theorem boxK_some {P : Program} (hR : R φ h w) {t : Nat} {y : AV} {yv : Value} {k : AV → AH → Option β} (hy : VR φ y yv) (he : boxK none y h k = some r) : Good P (Instr.box t yv) φ h w k r := by
  obtain ⟨cs, h1, h2⟩ := cellsAVK_some he hy
  cases hb : allB oneB cs with
  | false => rw [hb] at h1; cases h1
  | true =>
    rw [hb, ite_true_] at h1
    obtain ⟨h', φ', h3, h4, h5, h6⟩ := newHK_cells h1 t hR h2 (h2.ones (allB_true hb))
    refine ⟨φ', h', _, _, .pointer (some ⟨w.heap.size, 0, none⟩), h3, ?_, ptr_new h4, h5, h6⟩
    unfold Instr.box
    simp [newVar, newRow, newObj, Sem.run]

/-! ### Struct and array values, slice literals -/
def fillK (d : β) (pl : Nat → Option (Nat × Nat)) (parts : List (Nat × AV)) : List AV → (List AV → β) → β :=
  List.rec (motive := fun _ => List AV → (List AV → β) → β) (fun cells k => k cells) (fun p _ ih cells k => match pl p.1 with
    | some (off, sz) => cellsAVK d p.2 fun cs => ite_ (lenAB cs sz) (natK off fun off => putAtK d off cs cells fun cells => ih cells k) d
    | none => d) parts
def PRs (φ : Phi) : List (Nat × AV) → List (Nat × Value) → Prop
  | [], [] => True
  | (i, x) :: ps, (j, v) :: qs => i = j ∧ VR φ x v ∧ PRs φ ps qs
  | _, _ => False
omit [Bet] in
theorem VRs_put {cs xs : List AV} {cv us : List Value} {o : Nat} (hc : VRs φ cs cv) (hx : VRs φ xs us) (_hl : o + xs.length ≤ cs.length) : VRs φ (cs.take o ++ xs ++ cs.drop (o + xs.length)) (cv.take o ++ us ++ cv.drop (o + us.length)) := by
  rw [← hx.length]
  exact ((hc.take o).append hx).append (hc.drop _)
omit [Val] [Bet] in
theorem foldl_put (off : Nat) (l : List Value) (cs : Array Value) (hl : off + l.length ≤ cs.size) : ((l.zipIdx 0).foldl (fun cs (x : Value × Nat) => cs.setIfInBounds (off + x.2) x.1) cs).toList = cs.toList.take off ++ l ++ cs.toList.drop (off + l.length) := by
  obtain ⟨h1, h2⟩ := Great.foldl_set off l 0 cs
  apply List.ext_getElem?
  intro k
  rw [Array.getElem?_toList, h2 k, List.append_assoc]
  have hlen : (cs.toList.take off).length = off := by rw [List.length_take, Array.length_toList]; omega
  by_cases hk : k < off
  · rw [if_neg (by omega), List.getElem?_append_left (by omega), List.getElem?_take, if_pos hk]
    simp
  · rw [List.getElem?_append_right (by omega), hlen]
    by_cases hk2 : k < off + l.length
    · rw [if_pos (by omega), List.getElem?_append_left (by omega)]
      simp
    · rw [if_neg (by omega), List.getElem?_append_right (by omega), List.getElem?_drop]
      simp
      congr 1
      omega
omit [Bet] in
theorem fillK_some (pl : Nat → Option (Nat × Nat)) (parts : List (Nat × AV)) : ∀ {qs : List (Nat × Value)} {cells : List AV} {cv : Array Value} {k : List AV → Option β}, fillK none pl parts cells k = some r → PRs φ parts qs → VRs φ cells cv.toList →
    ∃ cells' cv', k cells' = some r ∧ Instr.fill pl cv qs = some cv' ∧ VRs φ cells' cv'.toList := by
  induction parts with
  | nil =>
    intro qs cells cv k h hp hc
    cases qs with
    | nil => exact ⟨cells, cv, h, rfl, hc⟩
    | cons q qs => exact hp.elim
  | cons p ps ih =>
    intro qs cells cv k h hp hc
    cases qs with
    | nil => exact hp.elim
    | cons q qs =>
      obtain ⟨i, x⟩ := p
      obtain ⟨j, v⟩ := q
      obtain ⟨rfl, hv, hps⟩ := hp
      have h' : (match pl i with
        | some (off, sz) => cellsAVK none x fun cs => ite_ (lenAB cs sz) (natK off fun off => putAtK none off cs cells fun cells => fillK none pl ps cells k) none
        | none => none) = some r := h
      cases hpl : pl i with
      | none => rw [hpl] at h'; cases h'
      | some os =>
        obtain ⟨off, sz⟩ := os
        rw [hpl] at h'
        obtain ⟨cs, h1, h2⟩ := cellsAVK_some h' hv
        cases hb : lenAB cs sz with
        | false => rw [hb] at h1; cases h1
        | true =>
          rw [hb, ite_true_, natK_eq] at h1
          have hl := lenAB_eq cs sz hb
          obtain ⟨h3, h4⟩ := putAtK_some off cs h1
          have hsz : v.cells.size = sz := by rw [← hl, h2.length, Array.length_toList]
          have hcl : cells.length = cv.size := hc.length.trans Array.length_toList
          have hfold := foldl_put off v.cells.toList cv (by rw [Array.length_toList, hsz]; omega)
          obtain ⟨cells', cv', h5, h6, h7⟩ := ih (cv := (v.cells.toList.zipIdx 0).foldl (fun cs (x : Value × Nat) => cs.setIfInBounds (off + x.2) x.1) cv) h4 hps (by rw [hfold]; exact VRs_put hc h2 h3)
          refine ⟨cells', cv', h5, ?_, h7⟩
          unfold Instr.fill
          simp only [hpl, hsz]
          rw [if_neg (by simp; omega), ← h6]
          congr 1
          rw [← Array.foldl_toList, Array.toList_zipIdx]
/-- The places of a struct's fields. -/
def placesK (d : β) (E : Env) (fs : List (Nat × Nat)) : (List (Nat × Nat) → β) → β := List.rec (motive := fun _ => (List (Nat × Nat) → β) → β) (fun k => k []) (fun f _ ih k => tabK d E f.1 fun ti => ih fun ps => k ((f.2, ti.size) :: ps)) fs
omit [Bet] in
theorem placesK_some (HT : TabOK E) (fs : List (Nat × Nat)) : ∀ {gs : List Field} {k : List (Nat × Nat) → Option β}, gs.map (fun f => (f.type, f.offset)) = fs → placesK none E fs k = some r → ∃ ps, k ps = some r ∧ gs.mapM (fun f => (E.P.info? f.type).map fun i => (f.offset, i.size)) = some ps := by
  induction fs with
  | nil => intro gs k hg h; cases gs with
    | nil => exact ⟨[], h, rfl⟩
    | cons g gs => simp at hg
  | cons f fs ih =>
    intro gs k hg h
    cases gs with
    | nil => simp at hg
    | cons g gs =>
      simp only [List.map_cons, List.cons.injEq] at hg
      obtain ⟨rfl, hg⟩ := hg
      obtain ⟨ti, i, dsc, z, _, T, h1⟩ := tabK_some HT (k := fun ti => placesK none E fs fun ps => k ((g.offset, ti.size) :: ps)) h
      obtain ⟨ps, h2, h3⟩ := ih hg h1
      refine ⟨_, h2, ?_⟩
      simp [List.mapM_cons, T.info, h3, T.size]
def nthP (ps : List (Nat × Nat)) : Nat → Option (Nat × Nat) := List.rec (motive := fun _ => Nat → Option (Nat × Nat)) (fun _ => none) (fun p _ ih n => Nat.rec (motive := fun _ => Option (Nat × Nat)) (some p) (fun m _ => ih m) n) ps
omit [Val] [Bet] in
theorem nthP_eq (ps : List (Nat × Nat)) : ∀ n, nthP ps n = ps[n]? := by
  induction ps with
  | nil => intro n; rfl
  | cons p ps ih => intro n; cases n with
    | zero => rfl
    | succ n => exact ih n
def arrPl (s : Nat) (i : Nat) : Option (Nat × Nat) := some (Nat.mul i s, s)
def buildK (d : β) (E : Env) (t : Nat) (parts : List (Nat × AV)) (h : AH) (k : AV → AH → β) : β := tabK d E t fun ti => match ti.d with
  | .struct fs => placesK d E fs fun ps => fillK d (nthP ps) parts ti.zero fun cells => k (.agg cells) h
  | .arr _ e => tabK d E e fun te => fillK d (arrPl te.size) parts ti.zero fun cells => k (.agg cells) h
  | _ => d
theorem buildK_some (HT : TabOK E) (_hR : R φ h w) {t : Nat} {parts : List (Nat × AV)} {qs : Array (Nat × Value)} {k : AV → AH → Option β} (hp : PRs φ parts qs.toList) (he : buildK none E t parts h k = some r) : GoodS E.P (Instr.build t qs) φ h w k r := by
  obtain ⟨ti, i, dsc, z, _, T, h1⟩ := tabK_some HT he
  have hz := T.zs.ext (phi0_ext φ)
  have hdesc := T.desc
  split at h1
  · rename_i fs hd
    rw [hd] at hdesc
    obtain ⟨gs, rfl, hgs⟩ := hdesc
    obtain ⟨ps, h2, h3⟩ := placesK_some HT fs hgs h1
    obtain ⟨cells, cv, h4, h5, h6⟩ := fillK_some (nthP ps) parts h2 hp hz
    refine ⟨_, .agg cv, h4, run_build w t qs cv ?_, .agg _ _ h6⟩
    unfold Program.built
    simp only [T.info, T.under, T.zero, h3]
    rw [← h5]
    congr 1
    funext n
    rw [nthP_eq]
    simp
  · rename_i n e hd
    rw [hd] at hdesc
    have hdesc : dsc = _ := hdesc
    subst hdesc
    obtain ⟨te, ie, de, ze, _, Te, h2⟩ := tabK_some HT h1
    obtain ⟨cells, cv, h4, h5, h6⟩ := fillK_some (arrPl te.size) parts h2 hp hz
    refine ⟨_, .agg cv, h4, run_build w t qs cv ?_, .agg _ _ h6⟩
    unfold Program.built
    simp only [T.info, T.under, T.zero, Te.info]
    rw [← h5, Te.size]
    rfl
  · cases h1
omit [Val] [Bet] in
theorem rep_length (zs : List AV) (n : Nat) : (rep zs n).length = n * zs.length := by
  induction n with
  | zero => simp [rep]
  | succ n ih => rw [rep, List.length_append, ih, Nat.succ_mul]; omega
omit [Val] [Bet] in
theorem rep_get (zs : List AV) : ∀ (n j : Nat), j < n * zs.length → (rep zs n)[j]? = zs[j % zs.length]? := by
  intro n
  induction n with
  | zero => intro j h; simp at h
  | succ n ih =>
    intro j h
    rw [rep]
    rcases Nat.lt_or_ge j zs.length with hj | hj
    · rw [List.getElem?_append_left hj, Nat.mod_eq_of_lt hj]
    · rw [List.getElem?_append_right hj, ih (j - zs.length) (by rw [Nat.succ_mul] at h; omega), ← Nat.mod_eq_sub_mod hj]
omit [Bet] in
theorem made_VRs {zs : List AV} {z : Array Value} (hz : VRs φ zs z.toList) (n : Nat) : VRs φ (rep zs n) (madeCells z (n * z.size)).toList := by
  have hl : zs.length = z.size := hz.length.trans Array.length_toList
  refine VRs.of (by rw [rep_length, hl]; simp [size_madeCells]) fun j x v hx hv => ?_
  have hj : j < n * zs.length := by have := (List.getElem?_eq_some_iff.1 hx).1; rwa [rep_length] at this
  rw [rep_get zs n j hj] at hx
  obtain ⟨u, h1, h2⟩ := hz.get hx
  have hpos : 0 < z.size := by
    rcases Nat.eq_zero_or_pos z.size with h0 | h0
    · rw [hl, h0] at hj; simp at hj
    · exact h0
  have hm : j % z.size < z.size := Nat.mod_lt _ hpos
  have : v = u := by
    unfold madeCells at hv
    simp only [Array.toList_map, Array.toList_range, List.getElem?_map] at hv
    rw [List.getElem?_range (by rw [← hl]; exact hj)] at hv
    simp at hv
    rw [hl] at h1
    rw [Array.getElem?_toList] at h1
    rw [← hv]
    rw [getElem!_pos z (j % z.size) hm]
    rw [Array.getElem?_eq_getElem hm] at h1
    exact Option.some.inj h1
  rw [this]
  exact h2
omit [Val] [Bet] in
theorem rep_ones {zs : List AV} (hz : ∀ x ∈ zs, oneB x = true) (n : Nat) : ∀ x ∈ rep zs n, oneB x = true := by
  induction n with
  | zero => intro x hx; cases hx
  | succ n ih =>
    intro x hx
    rcases List.mem_append.1 hx with h | h
    · exact hz x h
    · exact ih x h
def sliceTK (d : β) (E : Env) (t : Nat) (k : Nat → β) : β := tabK d E t fun ti => match ti.d with
  | .slice e => k e
  | _ => d
omit [Bet] in
theorem sliceTK_some (HT : TabOK E) {t : Nat} {k : Nat → Option β} (he : sliceTK none E t k = some r) : ∃ e, E.P.underlying t = some (.slice e) ∧ k e = some r := by
  obtain ⟨ti, i, dsc, z, _, T, h2⟩ := tabK_some HT he
  have h3 := T.desc
  split at h2
  · rename_i e hd
    rw [hd] at h3
    have h3 : dsc = _ := h3
    subst h3
    exact ⟨e, T.under, h2⟩
  · cases h2
def buildSliceK (d : β) (E : Env) (t len : Nat) (parts : List (Nat × AV)) (h : AH) (k : AV → AH → β) : β := sliceTK d E t fun e => tabK d E e fun te =>
  ite_ (Nat.ble (Nat.mul len te.size) 16777216) (ite_ (Nat.beq (Nat.mul len te.size) 0) (match parts with
    | [] => newHK d h (.cells []) fun h' => natK len fun len => k (.sl (some (h.nx, 0)) len (.k len)) h'
    | _ => d)
    (repK te.zero len fun zs => fillK d (arrPl te.size) parts zs fun cells => ite_ (allB oneB cells) (newHK d h (.cells cells) fun h' => natK len fun len => k (.sl (some (h.nx, 0)) len (.k len)) h') d)) d
omit [Bet] in
theorem sl_new {φ' : Phi} {i n z len c : Nat} (hp : φ' i = some (n, 0, z)) : VR φ' (.sl (some (i, 0)) len (.k c)) (.slice (some ⟨n, 0, none⟩) len c) := .sl i 0 n (0, z) len c hp
theorem buildSliceK_some (HT : TabOK E) (hR : R φ h w) {t len : Nat} {parts : List (Nat × AV)} {qs : Array (Nat × Value)} {k : AV → AH → Option β} (hp : PRs φ parts qs.toList) (he : buildSliceK none E t len parts h k = some r) :
    Good E.P (Instr.buildSlice t len qs) φ h w k r := by
  obtain ⟨e, hu, h1⟩ := sliceTK_some HT he
  obtain ⟨te, ie, de, ze, _, Te, h2⟩ := tabK_some HT h1
  rw [ble_dec, beq_dec] at h2
  by_cases hs : Nat.mul len te.size ≤ 16777216
  · rw [decide_eq_true hs, ite_true_] at h2
    have hs' : len * te.size ≤ 16777216 := hs
    by_cases h0 : Nat.mul len te.size = 0
    · rw [decide_eq_true h0, ite_true_] at h2
      have h0' : len * te.size = 0 := h0
      split at h2
      · cases hq : qs.toList with
        | cons q l => rw [hq] at hp; exact hp.elim
        | nil =>
          obtain ⟨h', φ', h3, h4, h5, h6⟩ := newHK_cells h2 e hR (.nil) (fun v hv => by cases hv)
          rw [natK_eq] at h3
          refine ⟨φ', h', _, _, .slice (some ⟨w.heap.size, 0, none⟩) len len, h3, ?_, sl_new h4, h5, h6⟩
          unfold Instr.buildSlice
          have hsz := Te.run_size w
          simp [run_underlying hu, hsz, h0', hq, Instr.fill, newRow, newObj, Sem.run, Array.range_zero']
      · cases h2
    · rw [decide_eq_false h0, ite_false_, repK_eq] at h2
      have hz := Te.zs.ext (phi0_ext φ)
      have hzl : ze.cells.size = te.size := by have := hz.length; rw [Array.length_toList] at this; rw [← this, Te.zlen]
      have hm := made_VRs hz len
      obtain ⟨cells, cv, h3, h4, h5⟩ := fillK_some (arrPl te.size) parts h2 hp hm
      cases hb : allB oneB cells with
      | false => rw [hb] at h3; cases h3
      | true =>
        rw [hb, ite_true_] at h3
        obtain ⟨h', φ', h6, h7, h8, h9⟩ := newHK_cells h3 e hR h5 (h5.ones (allB_true hb))
        rw [natK_eq] at h6
        refine ⟨φ', h', _, _, .slice (some ⟨w.heap.size, 0, none⟩) len len, h6, ?_, sl_new h7, h8, h9⟩
        have hrun := run_buildSlice (P := E.P) w t e len qs cv ie ze hu Te.info Te.zero (by rw [Te.size]; omega) (by rw [Te.size]; exact h0) (by
          have h4' := h4
          rw [hzl] at h4'
          rw [Te.size]
          exact h4')
        simpa using hrun
  · rw [decide_eq_false hs] at h2
    cases h2
def makeSliceK (d : β) (E : Env) (t : Nat) (x y : AV) (h : AH) (k : AV → AH → β) : β := match x, y with
  | .int _ (.ofNat l), .int _ (.ofNat c) => ite_ (Nat.ble l c) (ite_ (Nat.ble c 65536) (sliceTK d E t fun e => tabK d E e fun te => repK te.zero c fun zs => newHK d h (.cells zs) fun h' => natK l fun l => natK c fun c => k (.sl (some (h.nx, 0)) l (.k c)) h') d) d
  | _, _ => d
theorem makeSliceK_some (HT : TabOK E) (hR : R φ h w) {t : Nat} {x y : AV} {xv yv : Value} {k : AV → AH → Option β} (hx : VR φ x xv) (hy : VR φ y yv) (he : makeSliceK none E t x y h k = some r) : Good E.P (Instr.makeSlice t xv yv) φ h w k r := by
  unfold makeSliceK at he
  split at he
  · rename_i kl l kc c
    cases hx
    cases hy
    rw [ble_dec, ble_dec] at he
    by_cases hlc : l ≤ c
    · rw [decide_eq_true hlc, ite_true_] at he
      by_cases hc : c ≤ 65536
      · rw [decide_eq_true hc, ite_true_] at he
        obtain ⟨e, hu, h1⟩ := sliceTK_some HT he
        obtain ⟨te, ie, de, ze, _, Te, h2⟩ := tabK_some HT h1
        rw [repK_eq] at h2
        have hz := Te.zs.ext (phi0_ext φ)
        have hzl : ze.cells.size = te.size := by have := hz.length; rw [Array.length_toList] at this; rw [← this, Te.zlen]
        have hm := made_VRs hz c
        obtain ⟨h', φ', h6, h7, h8, h9⟩ := newHK_cells h2 e hR hm (hm.ones (rep_ones Te.ones c))
        rw [natK_eq, natK_eq] at h6
        refine ⟨φ', h', _, _, .slice (some ⟨w.heap.size, 0, none⟩) l c, h6, ?_, sl_new h7, h8, h9⟩
        have hb := Te.bytes
        have hbc : (ie.bytes : Int) * (c : Int) ≤ 281474976710656 := by
          have h3 : ie.bytes * c ≤ 1024 * 65536 := Nat.mul_le_mul hb hc
          have h4 : ((ie.bytes * c : Nat) : Int) ≤ 281474976710656 := by omega
          rwa [Int.natCast_mul] at h4
        have hrun := run_make (P := E.P) w t e ie ze hu Te.info Te.zero kl kc (l : Int) (c : Int) (by omega) (by omega) hbc (by omega)
        simp only [Int.toNat_natCast] at hrun
        rw [show Int.ofNat l = (l : Int) from rfl, show Int.ofNat c = (c : Int) from rfl, hrun, Te.size, ← hzl]
      · rw [decide_eq_false hc] at he; cases he
    · rw [decide_eq_false hlc] at he; cases he
  · cases he
end
end Go.Proofs.YtibmpjhffeinoaaGreat.Kx

namespace Go.Proofs.YtibmpjhffeinoaaGreat.Kx
open Go
variable [Val] [Bet]

noncomputable section
variable {β : Type} {E : Env} {P : Program} {φ : Phi} {h : AH} {w : World} {r : β}

theorem good_same {s : Sem Value} {k : AV → AH → Option β} {x : AV} {v : Value} (hR : R φ h w) (hk : k x h = some r) (hx : VR φ x v) (hs : s.run P w = .ok v w) : Good P s φ h w k r :=
  ⟨φ, h, w, x, v, hk, hs, hx, hR, .refl _ _ _⟩

/-- An instruction that yields a value, and leaves all as it is. -/
def GoodV (P : Program) (s : Sem Value) (φ : Phi) (w : World) (k : AV → Option β) (r : β) : Prop := ∃ x v, k x = some r ∧ s.run P w = .ok v w ∧ VR φ x v
omit [Bet] in
theorem goodV_of {s : Sem Value} {k : AV → Option β} {x : AV} {v : Value} (hk : k x = some r) (hx : VR φ x v) (hs : s.run P w = .ok v w) : GoodV P s φ w k r := ⟨x, v, hk, hs, hx⟩
theorem GoodV.good {s : Sem Value} {k : AV → AH → Option β} (hR : R φ h w) (hg : GoodV P s φ w (fun x => k x h) r) : Good P s φ h w k r := let ⟨x, v, h1, h2, h3⟩ := hg; ⟨φ, h, w, x, v, h1, h2, h3, hR, .refl _ _ _⟩
omit [Val] [Bet] in
theorem ite_blt {a b : Nat} {x : Option β} (he : ite_ (Nat.blt a b) x none = some r) : a < b ∧ x = some r := by
  cases hb : Nat.blt a b with
  | false => rw [hb] at he; cases he
  | true => rw [hb] at he; exact ⟨blt_true hb, he⟩
/-! ### Addresses -/
def fieldAddrK (d : β) (E : Env) (t f : Nat) (x : AV) (k : AV → β) : β := match x with
  | .ptr (some (i, o)) => tabK d E t fun ti => match ti.d with
    | .struct fs => match nthP fs f with
      | some (ft, off) => tabK d E ft fun fi => ite_ (Nat.beq fi.size 0) d (natK (Nat.add o off) fun o => k (.ptr (some (i, o))))
      | none => d
    | _ => d
  | _ => d
theorem fieldAddrK_some (HT : TabOK E) (_hR : R φ h w) {t f : Nat} {x : AV} {xv : Value} {k : AV → Option β} (hx : VR φ x xv) (he : fieldAddrK none E t f x k = some r) : GoodV E.P (Instr.fieldAt t xv f) φ w k r := by
  unfold fieldAddrK at he
  split at he
  · rename_i i o
    cases hx
    rename_i g d hp
    obtain ⟨ti, inf, dsc, z, _, T, h1⟩ := tabK_some HT he
    have hdesc := T.desc
    split at h1
    · rename_i fs hd
      rw [hd] at hdesc
      obtain ⟨gs, rfl, hgs⟩ := hdesc
      split at h1
      · rename_i ft off hn
        rw [nthP_eq, ← hgs, List.getElem?_map] at hn
        cases hg : gs.toList[f]? with
        | none => rw [hg] at hn; cases hn
        | some fd =>
          rw [hg] at hn
          simp only [Option.map_some, Option.some.injEq, Prod.mk.injEq] at hn
          obtain ⟨rfl, rfl⟩ := hn
          obtain ⟨fi, finf, fdsc, fz, _, Tf, h2⟩ := tabK_some HT h1
          rw [beq_dec] at h2
          by_cases h0 : fi.size = 0
          · rw [decide_eq_true h0] at h2; cases h2
          · rw [decide_eq_false h0, ite_false_, natK_eq] at h2
            have hgf : gs[f]? = some fd := by simpa using hg
            refine goodV_of (v := .pointer (some ⟨g, d.1 + (o + fd.offset), none⟩)) h2 (.ptr _ _ _ _ hp) ?_
            unfold Instr.fieldAt
            simp only [Sem.run_bind, run_underlying T.under, Result.andThen, hgf, Instr.sureAddr, Sem.run_pure, fieldPlace, Tf.run_size, h0, if_false, add_at, Nat.add_assoc]
      · cases h1
    · cases h1
  · cases he
def indexAddrK (d : β) (E : Env) (t : Nat) (x y : AV) (k : AV → β) : β := match y with
  | .int _ (.ofNat n) => tabK d E t fun ti => match ti.d, x with
    | .slice e, .sl (some (i, o)) len _ => ite_ (Nat.blt n len) (tabK d E e fun te => natK (Nat.add o (Nat.mul n te.size)) fun o => k (.ptr (some (i, o)))) d
    | .arr len e, .ptr (some (i, o)) => ite_ (Nat.blt n len) (tabK d E e fun te => natK (Nat.add o (Nat.mul n te.size)) fun o => k (.ptr (some (i, o)))) d
    | _, _ => d
  | _ => d
theorem indexAddrK_some (HT : TabOK E) (_hR : R φ h w) {t : Nat} {x y : AV} {xv yv : Value} {k : AV → Option β} (hx : VR φ x xv) (hy : VR φ y yv) (he : indexAddrK none E t x y k = some r) : GoodV E.P (Instr.indexAt t xv yv) φ w k r := by
  unfold indexAddrK at he
  split at he
  · rename_i kd n
    cases hy
    obtain ⟨ti, inf, dsc, z, _, T, h1⟩ := tabK_some HT he
    have hdesc := T.desc
    have fin : ∀ (e len i o g : Nat) (d : Nat × Nat) (a : Addr), φ i = some (g, d) → a = ⟨g, d.1 + o, none⟩ → ite_ (Nat.blt n len) (tabK none E e fun te => natK (Nat.add o (Nat.mul n te.size)) fun o => k (.ptr (some (i, o)))) none = some r →
        n < len ∧ ∃ v, (∃ te, (∀ w, (sizeOf e).run E.P w = .ok te w) ∧ v = .pointer (some (a.add (n * te)))) ∧ ∃ x, k x = some r ∧ VR φ x v := by
      intro e len i o g d a hp ha h2
      cases hb : Nat.blt n len with
      | false => rw [hb] at h2; cases h2
      | true =>
        rw [hb, ite_true_] at h2
        obtain ⟨te, ie, de, ze, _, Te, h3⟩ := tabK_some HT h2
        rw [natK_eq] at h3
        refine ⟨blt_true hb, _, ⟨te.size, Te.run_size, rfl⟩, _, h3, ?_⟩
        rw [ha, add_at, Nat.add_assoc]
        exact .ptr _ _ _ _ hp
    split at h1
    · rename_i e i o len c hd
      rw [hd] at hdesc
      have hdesc : dsc = _ := hdesc
      subst hdesc
      cases hx with
      | sl i o g d n' c hp =>
        obtain ⟨hlt, v, ⟨te, h3, rfl⟩, x, h4, h5⟩ := fin e len i o g d _ hp rfl h1
        refine goodV_of h4 h5 ?_
        unfold Instr.indexAt
        have hi : (n : Int) < (len : Int) := by omega
        simp [run_underlying T.under, asIntOf, h3, Nat.not_le.2 hlt]
      | slU i o g d n' c s a hp hc ha hz =>
        have hlt0 := (ite_blt h1).1
        obtain ⟨hlt, v, ⟨te, h3, rfl⟩, x, h4, h5⟩ := fin e len i o g d a hp (ha (by omega)) h1
        refine goodV_of h4 h5 ?_
        unfold Instr.indexAt
        have hi : (n : Int) < (len : Int) := by omega
        simp [run_underlying T.under, asIntOf, h3, Nat.not_le.2 hlt]
    · rename_i len e i o hd
      rw [hd] at hdesc
      have hdesc : dsc = _ := hdesc
      subst hdesc
      cases hx with
      | ptr i o g d hp =>
        obtain ⟨hlt, v, ⟨te, h3, rfl⟩, x, h4, h5⟩ := fin e len i o g d _ hp rfl h1
        refine goodV_of h4 h5 ?_
        unfold Instr.indexAt
        have hi : (n : Int) < (len : Int) := by omega
        simp [run_underlying T.under, asIntOf, h3, Instr.sureAddr, Nat.not_le.2 hlt]
    · cases h1
  · cases he
/-- An array's value, of elements of one cell. -/
def byteK (d : β) (l : List UInt8) : Nat → (UInt8 → β) → β := List.rec (motive := fun _ => Nat → (UInt8 → β) → β) (fun _ _ => d) (fun b _ ih n k => Nat.rec (motive := fun _ => β) (k b) (fun m _ => ih m k) n) l
omit [Val] [Bet] in
theorem byteK_some (l : List UInt8) : ∀ {n : Nat} {k : UInt8 → Option β}, byteK none l n k = some r → ∃ b, l[n]? = some b ∧ k b = some r := by
  induction l with
  | nil => intro n k h; cases h
  | cons b l ih =>
    intro n k h
    cases n with
    | zero => exact ⟨b, rfl, h⟩
    | succ n => obtain ⟨c, h1, h2⟩ := ih (n := n) h; exact ⟨c, by simpa using h1, h2⟩
def indexK (d : β) (E : Env) (t : Nat) (x y : AV) (k : AV → β) : β := match x, y with
  | .str s, .int _ (.ofNat n) => tabK d E t fun ti => match ti.d with
    | .str => byteK d s.data.toList n fun b => natK b.toNat fun m => k (.int .u8 (.ofNat m))
    | _ => d
  | .agg cs, .int _ (.ofNat n) => tabK d E t fun ti => match ti.d with
    | .arr len e => ite_ (Nat.blt n len) (tabK d E e fun te => ite_ te.d.agg d (skipK d n cs fun cs => match cs with
      | x :: _ => k x
      | [] => d)) d
    | _ => d
  | _, _ => d
theorem indexK_some (HT : TabOK E) (_hR : R φ h w) {t : Nat} {x y : AV} {xv yv : Value} {k : AV → Option β} (hx : VR φ x xv) (hy : VR φ y yv) (he : indexK none E t x y k = some r) : GoodV E.P (Instr.index t xv yv) φ w k r := by
  unfold indexK at he
  split at he
  · rename_i s kd n
    cases hy
    cases hx
    obtain ⟨ti, inf, dsc, z, _, T, h1⟩ := tabK_some HT he
    have hdesc := T.desc
    split at h1
    · rename_i hd
      rw [hd] at hdesc
      have hdesc : dsc = _ := hdesc
      subst hdesc
      obtain ⟨b, h2, h3⟩ := byteK_some _ h1
      rw [natK_eq] at h3
      have hb : s[n]? = some b := by
        have h4 : s.data[n]? = some b := by simpa using h2
        obtain ⟨h5, h6⟩ := Array.getElem?_eq_some_iff.1 h4
        rw [getElem?_pos s n h5]
        exact congrArg some h6
      refine goodV_of h3 (.int _ _) ?_
      unfold Instr.index
      simp [run_underlying T.under, asIntOf, hb]
    · cases h1
  · rename_i cs kd n
    cases hy
    cases hx with
    | agg _ us hus =>
      obtain ⟨ti, inf, dsc, z, _, T, h1⟩ := tabK_some HT he
      have hdesc := T.desc
      split at h1
      · rename_i len e hd
        rw [hd] at hdesc
        have hdesc : dsc = _ := hdesc
        subst hdesc
        cases hb : Nat.blt n len with
        | false => rw [hb] at h1; cases h1
        | true =>
          rw [hb, ite_true_] at h1
          obtain ⟨te, ie, de, ze, _, Te, h2⟩ := tabK_some HT h1
          cases ha : te.d.agg with
          | true => rw [ha] at h2; cases h2
          | false =>
            rw [ha, ite_false_] at h2
            obtain ⟨h3, h4⟩ := skipK_some n h2
            split at h4
            · rename_i x xs hcs
              have hx : cs[n]? = some x := by
                have := congrArg (fun l => l[0]?) hcs
                simpa using this
              obtain ⟨v, h5, h6⟩ := hus.get hx
              have hlt := blt_true hb
              have hi : (n : Int) < (len : Int) := by omega
              have hs := (Te.zone ha).1
              have h5' : us[n]? = some v := by simpa using h5
              refine goodV_of h4 h6 ?_
              unfold Instr.index
              simp [run_underlying T.under, asIntOf, Te.run_size, hs, part, Te.run_agg, ha, h5', Nat.not_le.2 hlt]
            · cases h4
      · cases h1
  · cases he

/-! ### Slices of slices, and of arrays -/
def natOfK (d : β) (x : AV) (k : Nat → β) : β := match x with
  | .int _ (.ofNat n) => k n
  | _ => d
def optK (d : β) (x : Option AV) (dflt : Nat) (k : Nat → β) : β := match x with
  | some x => natOfK d x k
  | none => k dflt
/-- The bounds, of a capacity that is known. -/
def boundsK (d : β) (len cap : Nat) (lo hi mx : Option AV) (k : Nat → Nat → Nat → β) : β := match mx, hi with
  | some _, none => d
  | _, _ => optK d mx cap fun m => optK d hi len fun h => optK d lo 0 fun l => ite_ (Nat.ble l h) (ite_ (Nat.ble h m) (ite_ (Nat.ble m cap) (k l h m) d) d) d
def OVR (φ : Phi) : Option AV → Option Value → Prop
  | none, none => True
  | some x, some v => VR φ x v
  | _, _ => False
omit [Bet] in
theorem natOfK_some {x : AV} {v : Value} {k : Nat → Option β} (hx : VR φ x v) (he : natOfK none x k = some r) : ∃ (kd : IntKind) (n : Nat), v = .int kd (n : Int) ∧ k n = some r := by
  unfold natOfK at he
  split at he
  · cases hx; exact ⟨_, _, rfl, he⟩
  · cases he
omit [Val] [Bet] in
theorem ite_ble {a b : Nat} {x : Option β} (he : ite_ (Nat.ble a b) x none = some r) : a ≤ b ∧ x = some r := by
  rw [ble_dec] at he
  by_cases h : a ≤ b
  · rw [decide_eq_true h] at he; exact ⟨h, he⟩
  · rw [decide_eq_false h] at he; cases he
omit [Val] [Bet] in
theorem run_bound {kd : IntKind} {n y : Nat} {c : BoundsCode} (h : n ≤ y) (w : World) : (Instr.sliceBound (.int kd (n : Int)) y c).run P w = .ok n w := by
  have h' : (n : Int) ≤ (y : Int) := by omega
  unfold Instr.sliceBound
  simp [asIntOf, h']
omit [Val] [Bet] in
theorem bnd {l h m cap : Nat} {x : Option β} (he : ite_ (Nat.ble l h) (ite_ (Nat.ble h m) (ite_ (Nat.ble m cap) x none) none) none = some r) : l ≤ h ∧ h ≤ m ∧ m ≤ cap ∧ x = some r := by
  obtain ⟨a1, he⟩ := ite_ble he
  obtain ⟨a2, he⟩ := ite_ble he
  obtain ⟨a3, he⟩ := ite_ble he
  exact ⟨a1, a2, a3, he⟩
omit [Bet] in
theorem optK_some {x : Option AV} {v : Option Value} {dflt : Nat} {k : Nat → Option β} (hx : OVR φ x v) (he : optK none x dflt k = some r) : ∃ n, k n = some r ∧ ((v = none ∧ n = dflt) ∨ ∃ kd : IntKind, v = some (.int kd (n : Int))) := by
  cases x with
  | none => cases v with
    | none => exact ⟨dflt, he, .inl ⟨rfl, rfl⟩⟩
    | some v => exact hx.elim
  | some x => cases v with
    | none => exact hx.elim
    | some v => obtain ⟨kd, n, rfl, h⟩ := natOfK_some (φ := φ) (k := k) hx he; exact ⟨n, h, .inr ⟨kd, rfl⟩⟩
omit [Bet] in
theorem boundsK_some {len cap : Nat} {lo hi mx : Option AV} {lv hv mv : Option Value} {k : Nat → Nat → Nat → Option β} (h1 : OVR φ lo lv) (h2 : OVR φ hi hv) (h3 : OVR φ mx mv) (he : boundsK none len cap lo hi mx k = some r) :
    ∃ l h m, l ≤ h ∧ h ≤ m ∧ m ≤ cap ∧ k l h m = some r ∧ (mx.isSome = false → m = cap) ∧ ∀ (b : Bool) (C : Nat) (w : World), cap ≤ C → (Instr.sliceBounds b len C lv hv mv).run P w = .ok (l, h, if mx.isSome then m else C) w := by
  have key : (optK none mx cap fun m => optK none hi len fun h => optK none lo 0 fun l => ite_ (Nat.ble l h) (ite_ (Nat.ble h m) (ite_ (Nat.ble m cap) (k l h m) none) none) none) = some r ∧ ¬ (mx.isSome = true ∧ hi.isSome = false) := by
    unfold boundsK at he
    split at he
    · cases he
    · rename_i hne
      refine ⟨he, fun ⟨a, b⟩ => ?_⟩
      cases mx with
      | none => cases a
      | some x => cases hi with
        | none => exact hne x rfl rfl
        | some y => cases b
  obtain ⟨key, hnn⟩ := key
  obtain ⟨m, k1, hm⟩ := optK_some h3 key
  obtain ⟨h, k2, hh⟩ := optK_some h2 k1
  obtain ⟨l, k3, hl⟩ := optK_some h1 k2
  obtain ⟨a1, a2, a3, k4⟩ := bnd k3
  have hmi : mx.isSome = mv.isSome := by
    cases mx <;> cases mv <;> first | rfl | exact h3.elim
  refine ⟨l, h, m, a1, a2, a3, k4, fun hn => ?_, fun b C w hC => ?_⟩
  · rcases hm with ⟨rfl, rfl⟩ | ⟨kd, rfl⟩
    · rfl
    · rw [hmi] at hn; cases hn
  rw [hmi]
  have b2 : h ≤ C := by omega
  have b3 : m ≤ C := by omega
  rcases hm with ⟨rfl, rfl⟩ | ⟨kd, rfl⟩
  · rcases hh with ⟨rfl, rfl⟩ | ⟨kd1, rfl⟩
    · rcases hl with ⟨rfl, rfl⟩ | ⟨kd2, rfl⟩
      · simp [Instr.sliceBounds]
      · simp [Instr.sliceBounds, run_bound a1]
    · rcases hl with ⟨rfl, rfl⟩ | ⟨kd2, rfl⟩
      · simp [Instr.sliceBounds, run_bound b2]
      · simp [Instr.sliceBounds, run_bound a1, run_bound b2]
  · rcases hh with ⟨rfl, rfl⟩ | ⟨kd1, rfl⟩
    · exfalso
      cases mx with
      | none => exact h3.elim
      | some x => cases hi with
        | none => exact hnn ⟨rfl, rfl⟩
        | some y => exact h2.elim
    · rcases hl with ⟨rfl, rfl⟩ | ⟨kd2, rfl⟩
      · simp [Instr.sliceBounds, run_bound a2, run_bound b3]
      · simp [Instr.sliceBounds, run_bound a1, run_bound a2, run_bound b3]
/-- Where a part begins: at l, but where nothing is left. -/
def offK (o l s m : Nat) (k : Nat → β) : β := ite_ (Nat.beq m l) (k o) (natK (Nat.add o (Nat.mul l s)) k)
def sliceK (d : β) (E : Env) (t : Nat) (x : AV) (lo hi mx : Option AV) (k : AV → β) : β := tabK d E t fun ti => match ti.d, x with
  | .arr n e, .ptr (some (i, o)) => tabK d E e fun te => boundsK d n n lo hi mx fun l h m => offK o l te.size m fun o => natK (Nat.sub h l) fun n => natK (Nat.sub m l) fun c => k (.sl (some (i, o)) n (.k c))
  | .slice e, .sl none n (.k c) => tabK d E e fun _te => boundsK d n c lo hi mx fun l h m => natK (Nat.sub h l) fun n => natK (Nat.sub m l) fun c => k (.sl none n (.k c))
  | .slice e, .sl (some (i, o)) n (.k c) => tabK d E e fun te => boundsK d n c lo hi mx fun l h m => offK o l te.size m fun o => natK (Nat.sub h l) fun n => natK (Nat.sub m l) fun c => k (.sl (some (i, o)) n (.k c))
  | .slice e, .sl (some (i, o)) n (.u s) => tabK d E e fun te => ite_ (Nat.beq te.size s) (match mx with
    | some _ => ite_ (Nat.beq n 0) d (boundsK d n n lo hi mx fun l h m => offK o l te.size m fun o => natK (Nat.sub h l) fun n => natK (Nat.sub m l) fun c => k (.sl (some (i, o)) n (.k c)))
    | none => boundsK d n n lo hi none fun l h _ => natK (Nat.add o (Nat.mul l s)) fun o => natK (Nat.sub h l) fun n => k (.sl (some (i, o)) n (.u s))) d
  | _, _ => d
omit [Val] [Bet] in
theorem offK_some {o l s m : Nat} {k : Nat → Option β} (he : offK o l s m k = some r) : k (if m = l then o else o + l * s) = some r := by
  unfold offK at he
  rw [beq_dec] at he
  by_cases h : m = l
  · rw [decide_eq_true h, ite_true_] at he; rw [if_pos h]; exact he
  · rw [decide_eq_false h, ite_false_, natK_eq] at he; rw [if_neg h]; exact he
end
end Go.Proofs.YtibmpjhffeinoaaGreat.Kx

namespace Go.Proofs.YtibmpjhffeinoaaGreat.Kx
open Go
variable [Val] [Bet]

noncomputable section
variable {β : Type} {E : Env} {P : Program} {φ : Phi} {h : AH} {w : World} {r : β}

omit [Val] [Bet] in
theorem at_off {g o l s m : Nat} : (if m = l then (⟨g, o, none⟩ : Addr) else (⟨g, o, none⟩ : Addr).add (l * s)) = ⟨g, if m = l then o else o + l * s, none⟩ := by
  split
  · rfl
  · rw [add_at]
theorem sliceK_some (HT : TabOK E) (_hR : R φ h w) {t : Nat} {x : AV} {xv : Value} {lo hi mx : Option AV} {lv hv mv : Option Value} {k : AV → Option β} (hx : VR φ x xv) (h1 : OVR φ lo lv) (h2 : OVR φ hi hv) (h3 : OVR φ mx mv) (he : sliceK none E t x lo hi mx k = some r) :
    GoodV E.P (Instr.sliceAt t xv lv hv mv) φ w k r := by
  obtain ⟨ti, inf, dsc, z, _, T, h4⟩ := tabK_some HT he
  have hdesc := T.desc
  have plain : ∀ {m cap : Nat}, (mx.isSome = false → m = cap) → (if mx.isSome then m else cap) = m := fun hm => by
    cases hs : mx.isSome with
    | true => rfl
    | false => simp [hm hs]
  split at h4
  · rename_i n e i o hd
    rw [hd] at hdesc
    have hdesc : dsc = _ := hdesc
    subst hdesc
    obtain ⟨te, ie, de, ze, _, Te, h5⟩ := tabK_some HT h4
    obtain ⟨l, hh, m, a1, a2, a3, h6, hm, hb⟩ := boundsK_some (P := E.P) h1 h2 h3 h5
    have h7 := offK_some h6
    rw [natK_eq, natK_eq] at h7
    have hb' := fun w => hb false n w (Nat.le_refl _)
    simp only [plain hm] at hb'
    cases hx with
    | ptr i o g d hp =>
      refine goodV_of h7 (v := .slice (some ⟨g, d.1 + (if m = l then o else o + l * te.size), none⟩) (hh - l) (m - l)) (.sl _ _ _ _ _ _ hp) ?_
      unfold Instr.sliceAt
      simp only [Sem.run_bind, run_underlying T.under, Result.andThen, Instr.sureAddr, Sem.run_pure, hb', Te.run_size, at_off]
      congr 4
      split <;> omega
  · rename_i e n c hd
    rw [hd] at hdesc
    have hdesc : dsc = _ := hdesc
    subst hdesc
    obtain ⟨te, ie, de, ze, _, Te, h5⟩ := tabK_some HT h4
    obtain ⟨l, hh, m, a1, a2, a3, h6, hm, hb⟩ := boundsK_some (P := E.P) h1 h2 h3 h5
    rw [natK_eq, natK_eq] at h6
    have hb' := fun w => hb true c w (Nat.le_refl _)
    simp only [plain hm] at hb'
    cases hx
    refine goodV_of h6 (v := .slice none (hh - l) (m - l)) (.sl0 _ _) ?_
    unfold Instr.sliceAt Instr.slice
    simp [run_underlying T.under, hb', Te.run_size]
  · rename_i e i o n c hd
    rw [hd] at hdesc
    have hdesc : dsc = _ := hdesc
    subst hdesc
    obtain ⟨te, ie, de, ze, _, Te, h5⟩ := tabK_some HT h4
    obtain ⟨l, hh, m, a1, a2, a3, h6, hm, hb⟩ := boundsK_some (P := E.P) h1 h2 h3 h5
    have h7 := offK_some h6
    rw [natK_eq, natK_eq] at h7
    have hb' := fun w => hb true c w (Nat.le_refl _)
    simp only [plain hm] at hb'
    cases hx with
    | sl i o g d n c hp =>
      refine goodV_of h7 (v := .slice (some ⟨g, d.1 + (if m = l then o else o + l * te.size), none⟩) (hh - l) (m - l)) (.sl _ _ _ _ _ _ hp) ?_
      unfold Instr.sliceAt Instr.slice
      simp only [Sem.run_bind, run_underlying T.under, Result.andThen, Sem.run_pure, hb', Te.run_size, Option.map_some, add_at]
      congr 2
      split
      · rfl
      · simp only [Nat.add_assoc]
  · rename_i e i o n s hd
    rw [hd] at hdesc
    have hdesc : dsc = _ := hdesc
    subst hdesc
    obtain ⟨te, ie, de, ze, _, Te, h5⟩ := tabK_some HT h4
    rw [beq_dec] at h5
    by_cases hs : te.size = s
    · rw [decide_eq_true hs, ite_true_] at h5
      subst hs
      cases hx with
      | slU i o g d n c s a hp hc ha hz =>
        cases mx with
        | some mz =>
          -- the capacity is cut at a bound that is no more than the length
          have h5' : ite_ (Nat.beq n 0) none (boundsK none n n lo hi (some mz) fun l h m => offK o l te.size m fun o => natK (Nat.sub h l) fun n => natK (Nat.sub m l) fun c => k (.sl (some (i, o)) n (.k c))) = some r := h5
          rw [beq_dec] at h5'
          by_cases hn0 : n = 0
          · rw [decide_eq_true hn0] at h5'; cases h5'
          · rw [decide_eq_false hn0, ite_false_] at h5'
            obtain ⟨l, hh, m, a1, a2, a3, h6, hm, hb⟩ := boundsK_some (P := E.P) (mv := mv) h1 h2 h3 h5'
            have h7 := offK_some h6
            rw [natK_eq, natK_eq] at h7
            have hb' := fun w => hb true c w hc
            simp only [Option.isSome_some, if_true] at hb'
            have ha' := ha (by omega)
            subst ha'
            refine goodV_of h7 (v := .slice (some ⟨g, d.1 + (if m = l then o else o + l * te.size), none⟩) (hh - l) (m - l)) (.sl _ _ _ _ _ _ hp) ?_
            unfold Instr.sliceAt Instr.slice
            simp only [Sem.run_bind, run_underlying T.under, Result.andThen, Sem.run_pure, hb', Te.run_size, Option.map_some, add_at]
            congr 2
            split
            · rfl
            · simp only [Nat.add_assoc]
        | none =>
          have hmv : mv = none := by cases mv with
            | none => rfl
            | some v => exact h3.elim
          subst hmv
          obtain ⟨l, hh, m, a1, a2, a3, h6, hm, hb⟩ := boundsK_some (P := E.P) (mx := none) (mv := none) h1 h2 trivial h5
          rw [natK_eq, natK_eq] at h6
          have hb' := fun w => hb true c w hc
          simp only [Option.isSome_none, Bool.false_eq_true, if_false] at hb'
          have hmn := hm rfl
          subst hmn
          refine goodV_of h6 (v := .slice (some (if c = l then a else a.add (l * te.size))) (hh - l) (c - l)) (.slU _ _ _ _ _ _ _ _ hp (show hh - l ≤ c - l by omega) (fun hp0 => ?_) (fun hp0 => ?_)) ?_
          · rw [if_neg (by omega), ha (by omega), add_at, Nat.add_assoc]
            rfl
          · have h8 := hz (by omega)
            have h9 : l * te.size + (c - l) * te.size = c * te.size := by rw [← Nat.add_mul]; congr 1; omega
            show d.1 + (o + l * te.size) + _ ≤ _
            omega
          · unfold Instr.sliceAt Instr.slice
            simp only [Sem.run_bind, run_underlying T.under, Result.andThen, Sem.run_pure, hb', Te.run_size, Option.map_some]
            congr 2
            split <;> rfl
    · rw [decide_eq_false hs] at h5; cases h5
  · cases h4
end
end Go.Proofs.YtibmpjhffeinoaaGreat.Kx

namespace Go.Proofs.YtibmpjhffeinoaaGreat.Kx
open Go
variable [Val] [Bet]

noncomputable section
variable {β : Type} {E : Env} {P : Program} {φ : Phi} {h : AH} {w : World} {r : β}

/-- The cells of a slice. -/
def cellsOfSK (d : β) (h : AH) (size : Nat) (y : AV) (k : Nat → List AV → β) : β := match y with
  | .sl none 0 _ => k 0 []
  | .sl (some (j, p)) m _ => loadK d h j p (Nat.mul m size) fun xs => natK m fun m => k m xs
  | _ => d
theorem cellsOfSK_some (hR : R φ h w) {size : Nat} {y : AV} {yv : Value} {k : Nat → List AV → Option β} (hy : VR φ y yv) (he : cellsOfSK none h size y k = some r) :
    ∃ A m c xs us, yv = .slice A m c ∧ k m xs = some r ∧ VRs φ xs us ∧ xs.length = m * size ∧ (∀ v ∈ us, v.oneCell' = true) ∧ (∀ P : Program, (Builtin.firstCells size m yv).run P w = .ok us.toArray w) ∧ (0 < m → 0 < size → ∃ a, A = some a ∧ ∀ j v, us[j]? = some v → w.cell? (a.add j) = some v) := by
  unfold cellsOfSK at he
  split at he
  · cases hy
    exact ⟨none, 0, _, [], [], rfl, he, .nil, (by simp), (fun v hv => by cases hv), (fun P => by simp [Builtin.firstCells]), fun h => absurd h (Nat.lt_irrefl 0)⟩
  · rename_i j p m c
    cases hy with
    | sl _ _ g d _ c hp =>
      obtain ⟨xs, us, h1, h2, h3, h4, h5⟩ := loadK_some he hR hp
      rw [natK_eq] at h2
      have hl : us.length = m * size := by rw [← h3.length, h1]; rfl
      exact ⟨_, m, c, xs, us, rfl, h2, h3, h1, h5, fun P => run_load_n hl h4, fun _ _ => ⟨_, rfl, h4⟩⟩
    | slU _ _ g d _ c s a hp hc ha hz =>
      obtain ⟨xs, us, h1, h2, h3, h4, h5⟩ := loadK_some he hR hp
      rw [natK_eq] at h2
      have hl : us.length = m * size := by rw [← h3.length, h1]; rfl
      rcases Nat.eq_zero_or_pos m with hm | hm
      · subst hm
        have hu : us = [] := List.eq_nil_of_length_eq_zero (by simpa using hl)
        subst hu
        exact ⟨_, 0, c, xs, [], rfl, h2, h3, h1, h5, fun P => by simp [Builtin.firstCells, loadCells, loadCellsFrom], fun h => absurd h (Nat.lt_irrefl 0)⟩
      · have := ha (by omega)
        subst this
        exact ⟨_, m, c, xs, us, rfl, h2, h3, h1, h5, fun P => run_load_n hl h4, fun _ _ => ⟨_, rfl, h4⟩⟩
  · cases he
theorem newHK_more {k : AH → Option β} {xs : List AV} {us zs : List Value} (he : newHK none h (.cells xs) k = some r) (e : TypeId) (hR : R φ h w) (hx : VRs φ xs us) (h1 : ∀ v ∈ us, v.oneCell' = true) (w' : World) (hw : w'.heap = w.heap.push (.cells (us ++ zs).toArray e))
    (ho : w'.os = w.os) (ht : w'.tape = w.tape) (hp : w'.output = w.output) :
    ∃ h' φ', k h' = some r ∧ φ' h.nx = some (w.heap.size, 0, (us ++ zs).length) ∧ R φ' h' w' ∧ St φ h w φ' h' w' := by
  obtain ⟨h', h2, h3, h4⟩ := newHK_some he
  have hf := Phi.upd_ext (p := (w.heap.size, 0, (us ++ zs).length)) hR.fresh
  obtain ⟨r1, r2⟩ := hR.new_ (h' := h') (z := (us ++ zs).length) (w' := w') (o := .cells (us ++ zs).toArray e) h2 hw h3
    ⟨_, e, rfl, by simp, fun j x hj => by
      obtain ⟨v, h5, h6⟩ := hx.get hj
      refine ⟨v, ?_, h6.ext hf, h1 v (List.mem_of_getElem? h5)⟩
      have hj2 : j < us.length := (List.getElem?_eq_some_iff.1 h5).1
      simp only [Nat.zero_add, List.getElem?_toArray]
      rw [List.getElem?_append_left hj2]
      exact h5⟩ ho ht hp
  exact ⟨h', _, h4, Phi.upd_same _ _, r1, r2⟩
omit [Val] [Bet] in
theorem run_append_at {t ty e : TypeId} {i : TypeInfo} {g o n c m c' : Nat} {A : Option Addr} {us : List Value} {w' : World} (hu : P.underlying t = some (.slice e)) (hi : P.info? e = some i) (hroom : n + m ≤ c)
    (hf : (Builtin.firstCells i.size m (.slice A m c')).run P w = .ok us.toArray w) (hst : (storeCells ⟨g, o + n * i.size, none⟩ us).run P w = .ok () w') :
    (Builtin.append_ #[t, t] ty #[.slice (some ⟨g, o, none⟩) n c, .slice A m c']).run P w = .ok (.slice (some ⟨g, o, none⟩) (n + m) c) w' := by
  simp [Builtin.append_, run_underlying hu, sizeOf, typeInfo, hi, Builtin.lenOf, hroom, hf, add_at, hst]
omit [Val] [Bet] in
theorem run_append_0 {t ty e : TypeId} {i : TypeInfo} {n c c' : Nat} {A B : Option Addr} (hu : P.underlying t = some (.slice e)) (hi : P.info? e = some i) (hroom : n ≤ c)
    (hf : (Builtin.firstCells i.size 0 (.slice A 0 c')).run P w = .ok #[] w) :
    (Builtin.append_ #[t, t] ty #[.slice B n c, .slice A 0 c']).run P w = .ok (.slice B n c) w := by
  cases B <;> simp [Builtin.append_, run_underlying hu, sizeOf, typeInfo, hi, Builtin.lenOf, hroom, hf, storeCells]
def capOkK (d : β) (n : Nat) (c : ACap) (k : β) : β := match c with
  | .k c => ite_ (Nat.ble n c) k d
  | .u _ => k
def appendK (d : β) (E : Env) (t t' : Nat) (x y : AV) (h : AH) (k : AV → AH → β) : β := ite_ (Nat.beq t t') (sliceTK d E t fun e => tabK d E e fun te => cellsOfSK d h te.size y fun m news =>
  ite_ (Nat.beq m 0) (match x with
    | .sl _a n c => capOkK d n c (k x h)
    | _ => d)
  (match x with
    | .sl none 0 (.k 0) => ite_ (Nat.ble m 65536) (newHK d h (.cells news) fun h' => k (.sl (some (h.nx, 0)) m (.u te.size)) h') d
    | .sl (some (i, o)) n (.k c) => ite_ (Nat.ble (Nat.add n m) c) (storeK d h i (Nat.add o (Nat.mul n te.size)) news fun h' => natK (Nat.add n m) fun nm => k (.sl (some (i, o)) nm (.k c)) h')
        (ite_ (Nat.ble (Nat.add n m) 65536) (loadK d h i o (Nat.mul n te.size) fun olds => appK olds news fun all => newHK d h (.cells all) fun h' => natK (Nat.add n m) fun nm => k (.sl (some (h.nx, 0)) nm (.u te.size)) h') d)
    | .sl (some (i, o)) n (.u s) => ite_ (Nat.beq te.size s) (ite_ (Nat.ble (Nat.add n m) 65536) (cellsK d h i fun _ => loadK d h i o (Nat.mul n te.size) fun olds => appK olds news fun all => newHK d h (.cells all) fun h' => setHK d h' i .dead fun h'' => natK (Nat.add n m) fun nm => k (.sl (some (h.nx, 0)) nm (.u te.size)) h'') d) d
    | _ => d)) d
omit [Val] [Bet] in
theorem fits {n m by_ : Nat} (h1 : n + m ≤ 65536) (h2 : by_ ≤ 1024) : (n + m) * by_ ≤ 140737488355328 := by
  have h3 : (n + m) * by_ ≤ 65536 * 1024 := Nat.mul_le_mul h1 h2
  omega
theorem appendK_some (HT : TabOK E) (hR : R φ h w) {t t' ty : Nat} {x y : AV} {xv yv : Value} {k : AV → AH → Option β} (hx : VR φ x xv) (hy : VR φ y yv) (he : appendK none E t t' x y h k = some r) :
    Good E.P (Builtin.append_ #[t, t'] ty #[xv, yv]) φ h w k r := by
  unfold appendK at he
  rw [beq_dec] at he
  by_cases htt : t = t'
  · rw [decide_eq_true htt, ite_true_] at he
    subst htt
    obtain ⟨e, hu, h1⟩ := sliceTK_some HT he
    obtain ⟨te, ie, de, ze, _, Te, h2⟩ := tabK_some HT h1
    obtain ⟨A, m, c', news, us, rfl, h3, hns, hnl, h1c, hfc, hpos⟩ := cellsOfSK_some hR hy h2
    have hfc := hfc E.P
    rw [← Te.size] at hfc
    have hul : us.length = m * ie.size := by rw [← hns.length, hnl, Te.size]
    have hzl : ze.cells.size = ie.size := by have := (Te.zs.length).trans Array.length_toList; rw [← this, Te.zlen, Te.size]
    rw [beq_dec] at h3
    by_cases hm0 : m = 0
    · rw [decide_eq_true hm0, ite_true_] at h3
      subst hm0
      have hue : us = [] := List.eq_nil_of_length_eq_zero (by simpa using hul)
      subst hue
      cases hx <;> simp only [] at h3 <;> try (cases h3; done)
      case sl0 n c =>
        obtain ⟨hc, h4⟩ := ite_ble h3
        exact good_same hR h4 (.sl0 _ _) (run_append_0 hu Te.info hc hfc)
      case sl i o g d n c hp =>
        obtain ⟨hc, h4⟩ := ite_ble h3
        exact good_same hR h4 (.sl _ _ _ _ _ _ hp) (run_append_0 hu Te.info hc hfc)
      case slU i o g d n c s a hp hc ha hz =>
        exact good_same hR h3 (.slU _ _ _ _ _ _ _ _ hp hc ha hz) (run_append_0 hu Te.info hc hfc)
    · rw [decide_eq_false hm0, ite_false_] at h3
      have hmpos : 0 < m := by omega
      split at h3
      · -- nil
        obtain ⟨hb, h4⟩ := ite_ble h3
        cases hx
        obtain ⟨a, rfl, hcells⟩ := hpos hmpos Te.spos
        have hrun := run_append_nil (P := E.P) w t ty e ie ze hu Te.info Te.zero a m c' us hul hcells hmpos (by omega) (by have := fits (n := 0) (m := m) (by omega) Te.bytes; simp at this; omega)
        obtain ⟨h', φ', h5, h6, h7, h8⟩ := newHK_more (zs := (Builtin.zeroCells ze.cells (grownCap w m 0 e - m)).toList) h4 e hR hns h1c (w.drew.alloc (.cells (us.toArray ++ Builtin.zeroCells ze.cells (grownCap w m 0 e - m)) e)) (by
          show w.heap.push _ = _
          congr 2
          apply Array.ext'
          simp) rfl rfl rfl
        refine ⟨φ', h', _, _, _, h5, hrun, .slU _ _ _ _ _ _ _ _ h6 ?_ (fun _ => rfl) (fun _ => ?_), h7, h8⟩
        · exact grownCap_ge w m 0 e
        · have hge := grownCap_ge w m 0 e
          simp only [List.length_append, hul, Array.length_toList, size_zeroCells, hzl, ← Nat.add_mul, Te.size]
          rw [show m + (grownCap w m 0 e - m) = grownCap w m 0 e from by omega]
          omega
      · -- a capacity that is known
        rename_i i o n c
        cases hx with
        | sl _ _ g d _ _ hp =>
          rw [ble_dec] at h3
          obtain ⟨a, rfl, hcells⟩ := hpos hmpos Te.spos
          by_cases hroom : Nat.add n m ≤ c
          · rw [decide_eq_true hroom, ite_true_] at h3
            obtain ⟨h', w', h4, h5, h6, h7⟩ := storeK_some (P := E.P) h3 hR hp hns
            rw [natK_eq] at h4
            have hst : (storeCells ⟨g, d.1 + o + n * ie.size, none⟩ us).run E.P w = .ok () w' := by
              rw [Te.size, Nat.add_assoc]; exact h5
            exact ⟨φ, h', w', _, _, h4, run_append_at hu Te.info hroom hfc hst, .sl _ _ _ _ _ _ hp, h6, h7⟩
          · rw [decide_eq_false hroom, ite_false_] at h3
            obtain ⟨hb, h4⟩ := ite_ble h3
            have hb : n + m ≤ 65536 := hb
            have hroom : ¬ n + m ≤ c := hroom
            obtain ⟨olds, ous, g1, g2, g3, g4, g5⟩ := loadK_some h4 hR hp
            rw [appK_eq] at g2
            have hol : ous.length = n * ie.size := by rw [← g3.length, g1, Te.size]; rfl
            have hrun := run_append_grow (P := E.P) w t ty e ie ze hu Te.info Te.zero ⟨g, d.1 + o, none⟩ n c ous hol g4 a m c' us hul hcells (by omega) (by omega) (growslice_fits (by omega) (fits hb Te.bytes))
            obtain ⟨h', φ', h5, h6, h7, h8⟩ := newHK_more (zs := (Builtin.zeroCells ze.cells (grownCap w (n + m) c e - (n + m))).toList) g2 e hR (g3.append hns) (fun v hv => by
                rcases List.mem_append.1 hv with h | h
                · exact g5 v h
                · exact h1c v h) (w.drew.alloc (.cells (ous.toArray ++ us.toArray ++ Builtin.zeroCells ze.cells (grownCap w (n + m) c e - (n + m))) e)) (by
              show w.heap.push _ = _
              congr 2
              apply Array.ext'
              simp) rfl rfl rfl
            rw [natK_eq] at h5
            have hge := grownCap_ge w (n + m) c e
            refine ⟨φ', h', _, _, _, h5, hrun, .slU _ _ _ _ _ _ _ _ h6 hge (fun _ => rfl) (fun _ => ?_), h7, h8⟩
            simp only [List.length_append, hol, hul, Array.length_toList, size_zeroCells, hzl, ← Nat.add_mul, Te.size]
            rw [show n + m + (grownCap w (n + m) c e - (n + m)) = grownCap w (n + m) c e from by omega]
            omega
      · -- a capacity that is not known
        rename_i i o n s
        rw [beq_dec] at h3
        by_cases hs : te.size = s
        · rw [decide_eq_true hs, ite_true_] at h3
          subst hs
          obtain ⟨hb, h4⟩ := ite_ble h3
          have hb : n + m ≤ 65536 := hb
          obtain ⟨a, rfl, hcells⟩ := hpos hmpos Te.spos
          cases hx with
          | slU _ _ g d _ c _ ad hp hc ha hz =>
            obtain ⟨csI, hlive, h4⟩ := cellsK_some h4
            obtain ⟨olds, ous, g1, g2, g3, g4, g5⟩ := loadK_some h4 hR hp
            rw [appK_eq] at g2
            have hol : ous.length = n * ie.size := by rw [← g3.length, g1, Te.size]; rfl
            by_cases hroom : n + m ≤ c
            · -- in place
              have hc0 : 0 < c := by omega
              have ha' := ha hc0
              subst ha'
              have hz' := hz hc0
              obtain ⟨h', k1, k2, k3⟩ := newHK_some g2
              obtain ⟨h'', k4, k5, k6⟩ := setHK_some k3
              rw [natK_eq] at k6
              obtain ⟨cc, ce, q1, q2, q3⟩ := hR.cellAt hlive hp
              have hfit : d.1 + o + n * ie.size + us.length ≤ cc.size := by
                rw [q2, hul, Nat.add_assoc, ← Nat.add_mul, Te.size]
                have := Nat.mul_le_mul_right te.size hroom
                omega
              have hst := run_storeCells_at E.P g (d.1 + o + n * ie.size) ce us 0 cc w q1 (by simpa using hfit) h1c
              simp only [Nat.add_zero] at hst
              have hi_ne : i ≠ h.nx := fun e => by have := hR.dom _ _ hp; omega
              have hf := Phi.upd_ext (p := (g, d.1 + o, d.2)) hR.fresh
              have hsz : (cc.toList.take (d.1 + o + n * ie.size) ++ us ++ cc.toList.drop (d.1 + o + n * ie.size + us.length)).length = d.2 := by
                simp only [List.length_append, List.length_take, List.length_drop, Array.length_toList]; omega
              obtain ⟨r1, r2⟩ := hR.moved (h' := h'') (w' := w.setRow g (cc.toList.take (d.1 + o + n * ie.size) ++ us ++ cc.toList.drop (d.1 + o + n * ie.size + us.length)).toArray) (d' := (d.1 + o, d.2)) (ao' := .cells (olds ++ news)) hlive hp (by rw [k4, k1]) (setRow_heap w g cc _ ce _ q1) (fun k hk => setRow_other w g k _ hk) (by simp [World.setRow])
                (fun mm aa hmm => by
                  rcases k5 mm aa hmm with ⟨e1, e2⟩ | ⟨e1, e2⟩
                  · exfalso
                    rw [e2] at hmm
                    exact (AH.of_get hmm).2 rfl
                  · rcases k2 mm aa e2 with h9 | ⟨h9, h10⟩
                    · exact .inl h9
                    · exact .inr ⟨h9, e1, h10⟩)
                ⟨_, ce, rfl, by simpa using hsz, fun j x hj => by
                  obtain ⟨v, v1, v2⟩ := (g3.append hns).get hj
                  refine ⟨v, ?_, v2.ext hf, ?_⟩
                  · simp only [List.getElem?_toArray]
                    have hto : (cc.toList.take (d.1 + o + n * ie.size)).length = d.1 + o + n * ie.size := by rw [List.length_take, Array.length_toList]; omega
                    rcases Nat.lt_or_ge j ous.length with hj1 | hj1
                    · rw [List.getElem?_append_left hj1] at v1
                      have v3 := g4 j v v1
                      rw [add_at] at v3
                      unfold World.cell? at v3
                      rw [q1] at v3
                      rw [List.append_assoc, List.getElem?_append_left (by rw [hto]; omega), List.getElem?_take, if_pos (by omega)]
                      simpa using v3
                    · rw [List.getElem?_append_right hj1] at v1
                      have hj2 : j - ous.length < us.length := (List.getElem?_eq_some_iff.1 v1).1
                      rw [List.append_assoc, List.getElem?_append_right (by rw [hto]; omega), hto, List.getElem?_append_left (by omega), show d.1 + o + j - (d.1 + o + n * ie.size) = j - ous.length from by omega]
                      exact v1
                  · rcases List.mem_append.1 (List.mem_of_getElem? v1) with h | h
                    · exact g5 v h
                    · exact h1c v h⟩ rfl rfl rfl
              exact ⟨_, h'', _, _, _, k6, run_append_at hu Te.info hroom hfc hst, .slU _ _ _ (d.1 + o, d.2) _ _ _ _ (Phi.upd_same _ _) hroom (fun _ => rfl) (fun _ => by simpa using hz'), r1, r2⟩
            · -- a new block
              have hrun := run_append_grow (P := E.P) w t ty e ie ze hu Te.info Te.zero ad n c ous hol (fun j v hv => by
                have hc0 : 0 < c := by
                  have : 0 < ous.length := by have := (List.getElem?_eq_some_iff.1 hv).1; omega
                  rw [hol] at this
                  have : 0 < n := by
                    rcases Nat.eq_zero_or_pos n with h0 | h0
                    · rw [h0] at this; simp at this
                    · exact h0
                  omega
                rw [ha hc0]
                exact g4 j v hv) a m c' us hul hcells (by omega) (by omega) (growslice_fits (by omega) (fits hb Te.bytes))
              obtain ⟨h', φ', h5, h6, h7, h8⟩ := newHK_more (zs := (Builtin.zeroCells ze.cells (grownCap w (n + m) c e - (n + m))).toList) g2 e hR (g3.append hns) (fun v hv => by
                  rcases List.mem_append.1 hv with h | h
                  · exact g5 v h
                  · exact h1c v h) (w.drew.alloc (.cells (ous.toArray ++ us.toArray ++ Builtin.zeroCells ze.cells (grownCap w (n + m) c e - (n + m))) e)) (by
                show w.heap.push _ = _
                congr 2
                apply Array.ext'
                simp) rfl rfl rfl
              obtain ⟨h'', k4, k5, k6⟩ := setHK_some h5
              rw [natK_eq] at k6
              have hsub : ∀ mm aa, h''.get mm = some aa → h'.get mm = some aa := fun mm aa hmm => by
                rcases k5 mm aa hmm with ⟨e1, e2⟩ | ⟨e1, e2⟩
                · exfalso
                  rw [e2] at hmm
                  exact (AH.of_get hmm).2 rfl
                · exact e2
              have hge := grownCap_ge w (n + m) c e
              refine ⟨φ', h'', _, _, _, k6, hrun, .slU _ _ _ _ _ _ _ _ h6 hge (fun _ => rfl) (fun _ => ?_), h7.sub hsub (by omega), ⟨⟨h8.ext, by rw [k4]; exact h8.nx, h8.size, h8.fr, fun i a g d h1 hf h2 h3 => h8.im i a g d (hsub _ _ h1) hf h2 h3, fun i a h1 h2 => h8.frz i a (hsub _ _ h1) h2, h8.os, h8.tape, h8.output⟩, h8.old⟩⟩
              simp only [List.length_append, hol, hul, Array.length_toList, size_zeroCells, hzl, ← Nat.add_mul, Te.size]
              rw [show n + m + (grownCap w (n + m) c e - (n + m)) = grownCap w (n + m) c e from by omega]
              omega
        · rw [decide_eq_false hs] at h3; cases h3
      · cases h3
  · rw [decide_eq_false htt] at he; cases he
/-- 'append(nil, make(T, n)...)'. -/
def appendZK (d : β) (E : Env) (t t' : Nat) (x y : AV) (h : AH) (k : AV → AH → β) : β := sliceTK d E t fun e => tabK d E e fun te => tabK d E t' fun ti => match ti.d, x, y with
  | .int _, .sl none 0 (.k 0), .int _ (.ofNat n) => ite_ (Nat.beq n 0) d (ite_ (Nat.ble n 65536) (repK te.zero n fun zs => newHK d h (.cells zs) fun h' => natK n fun n => k (.sl (some (h.nx, 0)) n (.u te.size)) h') d)
  | _, _, _ => d
theorem appendZK_some (HT : TabOK E) (hR : R φ h w) {t t' ty : Nat} {x y : AV} {xv yv : Value} {k : AV → AH → Option β} (hx : VR φ x xv) (hy : VR φ y yv) (he : appendZK none E t t' x y h k = some r) :
    Good E.P (Builtin.append_ #[t, t'] ty #[xv, yv]) φ h w k r := by
  obtain ⟨e, hu, h1⟩ := sliceTK_some HT he
  obtain ⟨te, ie, de, ze, _, Te, h2⟩ := tabK_some HT h1
  obtain ⟨ti, ii, di, zi, _, Ti, h3⟩ := tabK_some HT h2
  have hdesc := Ti.desc
  split at h3
  · rename_i kd k0 n hd
    rw [hd] at hdesc
    have hdesc : di = _ := hdesc
    subst hdesc
    cases hx
    cases hy
    rw [beq_dec] at h3
    by_cases h0 : n = 0
    · rw [decide_eq_true h0] at h3; cases h3
    · rw [decide_eq_false h0, ite_false_] at h3
      obtain ⟨hb, h4⟩ := ite_ble h3
      rw [repK_eq] at h4
      have hz := Te.zs.ext (phi0_ext φ)
      have hzl : ze.cells.size = ie.size := by have := (Te.zs.length).trans Array.length_toList; rw [← this, Te.zlen, Te.size]
      have hm := made_VRs hz n
      have hzc : Builtin.zeroCells ze.cells n = madeCells ze.cells (n * ze.cells.size) := rfl
      obtain ⟨h', φ', h5, h6, h7, h8⟩ := newHK_more (zs := (Builtin.zeroCells ze.cells (grownCap w n 0 e - n)).toList) h4 e hR hm (hm.ones (rep_ones Te.ones n)) (w.drew.alloc (.cells (Builtin.zeroCells ze.cells n ++ Builtin.zeroCells ze.cells (grownCap w n 0 e - n)) e)) (by
        show w.heap.push _ = _
        congr 2
        apply Array.ext'
        simp [hzc]) rfl rfl rfl
      rw [natK_eq] at h5
      have hge := grownCap_ge w n 0 e
      refine ⟨φ', h', _, _, .slice (some ⟨w.heap.size, 0, none⟩) n (grownCap w n 0 e), h5, ?_, .slU _ _ _ _ _ _ _ _ h6 hge (fun _ => rfl) (fun _ => ?_), h7, h8⟩
      · have hw : IntKind.i64.wrap (n : Int) = n := IntWalk.i64_in _ (by omega)
        have hby : n * ie.bytes ≤ 140737488355328 := by have := fits (n := 0) (m := n) (by omega) Te.bytes; simpa using this
        have n1 : ¬ ((n : Int) < 0) := by omega
        have n2 : ¬ (281474976710656 < (n : Int) * (ie.bytes : Int)) := by
          have : ((n * ie.bytes : Nat) : Int) ≤ 140737488355328 := by omega
          rw [Int.natCast_mul] at this
          omega
        have n3 : ¬ (9223372036854775807 < (n : Int)) := by omega
        have n4 : ¬ (281474976710656 < Builtin.nextslicecap n 0 * ie.bytes) := by rw [nextslicecap_zero (by omega)]; omega
        have n5 : ¬ n * ie.size = 0 := by
          have := Te.spos
          rw [← Te.size] at this
          exact Nat.mul_ne_zero h0 (by omega)
        simp [Builtin.append_, run_underlying hu, run_underlying Ti.under, sizeOf, typeInfo, zeroValue, Te.info, Te.zero, asInt, asIntOf, hw, n1, n2, n3, n4, n5, h0, Builtin.firstCells, Question.forced, newRow, grownCap]
      · simp only [List.length_append, Array.length_toList, size_zeroCells, size_madeCells, hzl, ← Nat.add_mul, Te.size]
        rw [show n + (grownCap w n 0 e - n) = grownCap w n 0 e from by omega]
        omega
  · cases h3
def appendAnyK (d : β) (E : Env) (t t' : Nat) (x y : AV) (h : AH) (k : AV → AH → β) : β := ite_ (Nat.beq t t') (appendK d E t t' x y h k) (appendZK d E t t' x y h k)
theorem appendAnyK_some (HT : TabOK E) (hR : R φ h w) {t t' ty : Nat} {x y : AV} {xv yv : Value} {k : AV → AH → Option β} (hx : VR φ x xv) (hy : VR φ y yv) (he : appendAnyK none E t t' x y h k = some r) :
    Good E.P (Builtin.append_ #[t, t'] ty #[xv, yv]) φ h w k r := by
  unfold appendAnyK at he
  cases hb : Nat.beq t t' with
  | true => rw [hb, ite_true_] at he; exact appendK_some HT hR hx hy he
  | false => rw [hb, ite_false_] at he; exact appendZK_some HT hR hx hy he
end
end Go.Proofs.YtibmpjhffeinoaaGreat.Kx
