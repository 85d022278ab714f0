import Derived.Test.YtkeiajncmhkdmaaL5
namespace Go.Proofs.Ytkeiajncmhkdmaa
open Go.RowKit Go.Shelf
attribute [local go_sem] Oper.semAt_some

/-- The first range over a function in a code, whole. -/
def firstRangeWhole : Code → Option Code
  | .rangeFunc a b c d => some (.rangeFunc a b c d)
  | .seq a b => match firstRangeWhole a with
    | some c => some c
    | none => firstRangeWhole b
  | .loop c => firstRangeWhole c
  | .block _ c => firstRangeWhole c
  | .scope c => firstRangeWhole c
  | .cond _ a b => match firstRangeWhole a with
    | some c => some c
    | none => firstRangeWhole b
  | _ => none
noncomputable def dropRange : Code := ((Try.f65.body.bind firstRangeWhole).getD .skip)

/-- All blocks of cells but g and row r are as they were. -/
def Kc (W W' : World) (g : Nat) (r : Option Nat) : Prop := ∀ k t cs, k ≠ g → some k ≠ r → Bk W k t cs → Bk W' k t cs
def Ka (W W' : World) : Prop := ∀ k t cs, Bk W k t cs → Bk W' k t cs
def Kd (W W' : World) (g : Nat) (r : Option Nat) : Prop := ∀ k o, k < W.heap.size → k ≠ g → some k ≠ r → W.heap[k]? = some o → W'.heap[k]? = some o
theorem Kd.from_ {β : Type} (W : World) (g : Nat) (r : Option Nat) : OwnFrom W.heap.size (fun (_ : β) W' => W.heap.size ≤ W'.heap.size ∧ Kd W W' g r) := fun s A C row hs hg hr =>
  ⟨Nat.le_trans hs.1 hg.size, fun k o h0 h1 h2 h3 => (hg.block k (Nat.lt_of_lt_of_le h0 hs.1) fun e => absurd (hr k e.symm).1 (by omega)).trans (hs.2 k o h0 h1 h2 h3)⟩
theorem Kc.from_ {β : Type} (B : Nat) (W : World) (g : Nat) (r : Option Nat) : OwnFrom B (fun (_ : β) W' => Kc W W' g r) := fun s A C row hs hg hr k t cs h1 h2 h3 => Bk.from_ (β := β) B k t cs s A C row (hs k t cs h1 h2 h3) hg hr
theorem Ka.from_ {β : Type} (B : Nat) (W : World) : OwnFrom B (fun (_ : β) W' => Ka W W') := fun s A C row hs hg hr k t cs h3 => Bk.from_ (β := β) B k t cs s A C row (hs k t cs h3) hg hr
theorem Only.keeps {W W' : World} {g base n c : Nat} {A : Option Addr} {xs : List Int} {t : TypeId} {cs : Array Value} (h : Only W W' g (A.map Addr.block)) (hg : Bk W g t cs) (ho : Oi W base A n c xs) (B : Nat) : KeepsFrom B W W' :=
  ⟨h.size, fun k o _ hk hc => (h.block k (Array.getElem?_eq_some_iff.1 hk).1 (fun e => by
      subst e
      rw [show W.heap[k]? = _ from hg] at hk
      cases hk
      cases hc) (fun e => by
      cases A with
      | none => cases e
      | some ad =>
        rcases ho.2 with ⟨h', _⟩ | ⟨g', cap', cur, h', _, hg', _⟩
        · cases h'
        · have hA : ad = ⟨g', 0, none⟩ := by injection h' with h1; injection h1
          subst hA
          have : k = g' := by simpa using e
          subst this
          rw [hg'] at hk
          cases hk
          cases hc)).trans hk⟩

set_option maxRecDepth 100000 in
set_option maxHeartbeats 2000000 in
theorem drop_range (b g base P0 P1 I0 FB PB at_ i st : Nat) (wh : Bool) (A : Option Addr) (n c : Nat) (L : List Int) (s : Int) (W : World) (Q : Exit → Act → World → Prop) (ds : List Deferred) (u0 u1 u4 u5 u6 u8 u9 u10 u11 u12 u13 u14 u15 u16 u17 u18 u19 u20 u21 u22 u23 u24 u25 u26 u27 u28 u29 u30 u31 u32 u33 u34 u36 u37 u38 u39 u40 u41 u42 u43 u44 u45 u46 u47 u48 u49 u50 u51 u52 u53 u54 u55 u56 u57 u58 u59 u60 u61 u62 u63 u64 u65 u66 u67 u68 u69 u70 u71 u72 u73 u74 u75 u76 u77 u78 u79 u80 u81 u82 u83 u84 u85 u86 u87 u88 u89 u90 u91 u92 u93 u94 u95 u96 u97 u98 u99 u100 u101 u102 u103 u104 : Value)
    (hbg : base ≤ g) (hb8 : b ≤ 8) (hi : i ≤ 1) (hat : at_ ≤ 8) (hst : st ≤ b) (hn : n ≤ 1048576) (hs : 0 ≤ s ∧ s ≤ 1048576)
    (k0 : Bk W P0 56 #[.pointer (some ⟨g, 0, none⟩)]) (k1 : Bk W P1 3 #[.int .i64 (at_ : Int)]) (k7 : Bk W I0 3 #[.int .i64 (i : Int)])
    (kf : Bk W FB 3 #[.int .i64 (st : Int)]) (kp : Bk W PB 56 #[.pointer (some ⟨g, 0, none⟩)])
    (kg : Bk W g 64 (puCells (b : Int) wh L A n c s)) (ho : Oi W base A n c L) (hr1 : some P1 ≠ A.map Addr.block) (hr7 : some I0 ≠ A.map Addr.block)
    (hQ1 : ∀ (k g3 cap D : Nat) (W' : World), k < b → st ≤ k → slid1 (b : Int) L (st : Int) = (k : Int) →
      Bk W' g 64 (puCells (b : Int) wh (L ++ [(k : Int)]) (some ⟨g3, 0, none⟩) (n + 1) cap (s + ((k : Int) - (at_ : Int) + (i : Int) * (b : Int)))) → Oi W' base (some ⟨g3, 0, none⟩) (n + 1) cap (L ++ [(k : Int)]) →
      Kc W W' g (A.map Addr.block) → (W.heap.size ≤ W'.heap.size ∧ Kd W W' g (A.map Addr.block)) → Below base W W' → W'.heap[D]? = some (.deferred (some [])) → W.heap.size ≤ D → Q (.exit 0) ⟨#[u0, u1, .pointer (some ⟨P0, 0, none⟩), .pointer (some ⟨P1, 0, none⟩), u4, u5, u6, .pointer (some ⟨I0, 0, none⟩), u8, u9, u10, u11, u12, u13, u14, u15, u16, u17, u18, u19, u20, u21, u22, u23, u24, u25, u26, u27, u28, u29, u30, u31, u32, u33, u34, .func (.func 71) #[] #[.pointer (some ⟨FB, 0, none⟩), .pointer (some ⟨PB, 0, none⟩)], u36, u37, u38, u39, u40, u41, u42, u43, u44, u45, u46, u47, u48, u49, u50, u51, u52, u53, u54, u55, u56, u57, u58, u59, u60, u61, u62, u63, u64, u65, u66, u67, u68, u69, u70, u71, u72, u73, u74, u75, u76, u77, u78, u79, u80, u81, u82, u83, u84, u85, u86, u87, u88, u89, u90, u91, u92, u93, u94, u95, u96, u97, u98, u99, u100, u101, u102, u103, u104], { target := .collected D, args := #[] } :: ds⟩ W')
    (hQ2 : ∀ (D : Nat) (W' : World), slid1 (b : Int) L (st : Int) = (b : Int) → Oi W' base A n c L → Ka W W' → (W.heap.size ≤ W'.heap.size ∧ Kd W W' g (A.map Addr.block)) → Below base W W' → W'.heap[D]? = some (.deferred (some [])) → W.heap.size ≤ D → Q .normal ⟨#[u0, u1, .pointer (some ⟨P0, 0, none⟩), .pointer (some ⟨P1, 0, none⟩), u4, u5, u6, .pointer (some ⟨I0, 0, none⟩), u8, u9, u10, u11, u12, u13, u14, u15, u16, u17, u18, u19, u20, u21, u22, u23, u24, u25, u26, u27, u28, u29, u30, u31, u32, u33, u34, .func (.func 71) #[] #[.pointer (some ⟨FB, 0, none⟩), .pointer (some ⟨PB, 0, none⟩)], u36, u37, u38, u39, u40, u41, u42, u43, u44, u45, u46, u47, u48, u49, u50, u51, u52, u53, u54, u55, u56, u57, u58, u59, u60, u61, u62, u63, u64, u65, u66, u67, u68, u69, u70, u71, u72, u73, u74, u75, u76, u77, u78, u79, u80, u81, u82, u83, u84, u85, u86, u87, u88, u89, u90, u91, u92, u93, u94, u95, u96, u97, u98, u99, u100, u101, u102, u103, u104], { target := .collected D, args := #[] } :: ds⟩ W') :
    dropRange.wp Try.prog Q ⟨#[u0, u1, .pointer (some ⟨P0, 0, none⟩), .pointer (some ⟨P1, 0, none⟩), u4, u5, u6, .pointer (some ⟨I0, 0, none⟩), u8, u9, u10, u11, u12, u13, u14, u15, u16, u17, u18, u19, u20, u21, u22, u23, u24, u25, u26, u27, u28, u29, u30, u31, u32, u33, u34, .func (.func 71) #[] #[.pointer (some ⟨FB, 0, none⟩), .pointer (some ⟨PB, 0, none⟩)], u36, u37, u38, u39, u40, u41, u42, u43, u44, u45, u46, u47, u48, u49, u50, u51, u52, u53, u54, u55, u56, u57, u58, u59, u60, u61, u62, u63, u64, u65, u66, u67, u68, u69, u70, u71, u72, u73, u74, u75, u76, u77, u78, u79, u80, u81, u82, u83, u84, u85, u86, u87, u88, u89, u90, u91, u92, u93, u94, u95, u96, u97, u98, u99, u100, u101, u102, u103, u104], ds⟩ W := by
  conv => arg 2; whnf
  have hsb : base ≤ W.heap.size := by have := kg.lt; omega
  refine (wpIn_wide (n := 5)).1 ?_
  refine wpIn_rangeFunc_ownG rfl (by decide) (gf := 71) (lb := #[.pointer (some ⟨FB, 0, none⟩), .pointer (some ⟨PB, 0, none⟩)]) rfl trivial (enters_of Try.func71 (by kernel_rfl) rfl)
    (free1_stops Fence.wide (5 - 1) trivial rfl (by decide) PB FB g W.heap.size st b wh L A n c s hb8 hst W kp.lt kf.lt kg.lt (Nat.le_refl _) (kp.cell 0) (kf.cell 0) kg) belowK_t (belowK_b (Nat.le_refl _)) (Below.refl _ _) (fun _ => rfl)
    (fun pre W' => (pre = [] ∧ Ka W W') ∧ ((W.heap.size ≤ W'.heap.size ∧ Kd W W' g (A.map Addr.block)) ∧ (Oi W' base A n c L ∧ Below base W W')))
    (fun c0 pre W' => c0 = .exit 0 ∧ ∃ x : Free L, pre = [x] ∧ ∃ g3 cap : Nat, Bk W' g 64 (puCells (b : Int) wh (L ++ [(x.1 : Int)]) (some ⟨g3, 0, none⟩) (n + 1) cap (s + ((x.1 : Int) - (at_ : Int) + (i : Int) * (b : Int)))) ∧
      Oi W' base (some ⟨g3, 0, none⟩) (n + 1) cap (L ++ [(x.1 : Int)]) ∧ Kc W W' g (A.map Addr.block) ∧ (W.heap.size ≤ W'.heap.size ∧ Kd W W' g (A.map Addr.block)) ∧ Below base W W')
    ?hI ?hIx ?h0 (fun x => ⟨#[u0, u1, .pointer (some ⟨P0, 0, none⟩), .pointer (some ⟨P1, 0, none⟩), u4, u5, u6, .pointer (some ⟨I0, 0, none⟩), u8, .int .i64 (x.1 : Int), u10, u11, u12, u13, u14, u15, u16, u17, u18, u19, u20, u21, u22, u23, u24, u25, u26, u27, u28, u29, u30, u31, u32, u33, u34, .func (.func 71) #[] #[.pointer (some ⟨FB, 0, none⟩), .pointer (some ⟨PB, 0, none⟩)], .int .i64 (x.1 : Int), u37, u38, u39, u40, u41, u42, u43, u44, u45, u46, u47, u48, u49, u50, u51, u52, u53, u54, u55, u56, u57, u58, u59, u60, u61, u62, u63, u64, u65, u66, u67, u68, u69, u70, u71, u72, u73, u74, u75, u76, u77, u78, u79, u80, u81, u82, u83, u84, u85, u86, u87, u88, u89, u90, u91, u92, u93, u94, u95, u96, u97, u98, u99, u100, u101, u102, u103, u104], []⟩) ?assign ?body ?done ?stop
  case hI => exact OwnFrom.and (fun s A C row hs hg hr => ⟨hs.1, Ka.from_ _ W () A C row hs.2 hg hr⟩) (OwnFrom.and (Kd.from_ W g (A.map Addr.block)) (OwnFrom.and (Oi.from_ _ base n c A L) (below_from hsb hsb)))
  case hIx =>
    intro c0 s A' C row hs hg hr
    obtain ⟨h1, x, h2, g3, cap, h3, h4, h5, h5d, h6⟩ := hs
    exact ⟨h1, x, h2, g3, cap, Bk.from_ (β := Unit) _ _ _ _ () A' C row h3 hg hr, Oi.from_ (β := Unit) _ _ _ _ _ _ () A' C row h4 hg hr, Kc.from_ (β := Unit) _ W _ _ () A' C row h5 hg hr, Kd.from_ (β := Unit) W _ _ () A' C row h5d hg hr, below_from (β := Unit) hsb hsb () A' C row h6 hg hr⟩
  case h0 => exact ⟨⟨rfl, fun _ _ _ h => h⟩, ⟨Nat.le_refl _, fun _ _ _ _ _ h => h⟩, ho, Below.refl _ _⟩
  case assign =>
    intro l x W' K hK
    gi_wp2
    exact hK
  case body =>
    rintro l pre x W' ⟨⟨rfl, hka⟩, hkd, ho', hb'⟩ _
    refine drop_body l _ x.1 b i g base P0 P1 I0 at_ wh A n c L s W' _ _ _ _ _ _ _ _ _ _ _ _ _ _ _ _ _ _ _ _ _ _ _ _ _ _ _ _ _ _ _ _ _ _ _ _ _ _ _ _ _ _ _ _ _ _ _ _ _ _ _ _ _ _ _ _ _ _ _ _ _ _ _ _ _ _ _ _ _ _ _ _ _ _ _ _ _ _ _ _ _ _ _ _ _ _ _ _ _ _ _ _ _ _ _ _ _ _ _ _ _ _ (fun _ _ h => h) (fun _ _ _ _ h => h) hbg x.2.1 hb8 hi hat hn hs x.2.2 (hka _ _ _ k0) (hka _ _ _ k1) (hka _ _ _ k7) (hka _ _ _ kg) ho' hr1 hr7 ?_
    intro g3 cap a' W2 h1 h2 h3
    have hkg := hka _ _ _ kg
    exact ⟨h3.keeps hkg ho' _, rfl, x, rfl, g3, cap, h1, h2, fun k t cs e1 e2 e3 => h3.bk (hka _ _ _ e3) e1 e2, ⟨Nat.le_trans hkd.1 h3.size, fun k o e0 e1 e2 e3 => (h3.block k (Nat.lt_of_lt_of_le e0 hkd.1) e1 e2).trans (hkd.2 k o e0 e1 e2 e3)⟩, hb'.trans (h3.below hbg (fun k hk => (ho'.lt k hk).1) (by have := hkg.lt; omega))⟩
  case done =>
    rintro D xs W' hD rfl ⟨⟨hnil, hka⟩, hkd, ho', hb'⟩ hK
    exact hQ2 D W' (slid1_none (b - st) st rfl hst (yl_nil b hb8 hnil)) ho' hka hkd hb' hK hD
  case stop =>
    rintro D c0 pre W' hD ⟨k, hkb, hsk, hkL, hpre⟩ ⟨rfl, x, rfl, g3, cap, h3, h4, h5, h5d, h6⟩ hK
    have h8 : k < 8 := by omega
    rw [yl_yes h8 hsk hkL] at hpre
    have hy : yl L st k = [] := by
      cases hh : yl L st k with
      | nil => rfl
      | cons y ys => rw [hh] at hpre; simp at hpre
    rw [hy] at hpre
    simp only [List.nil_append, List.cons.injEq, and_true] at hpre
    subst hpre
    exact wpIn_exit (hQ1 k g3 cap D W' hkb hsk (slid1_first hkb hkL (k - st) st rfl hsk (yl_nil k (by omega) hy)) h3 h4 h5 h5d h6 hK hD)
end Go.Proofs.Ytkeiajncmhkdmaa
