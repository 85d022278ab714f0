/-
  
-/
import Derived.Test.YtibmpjhffeinoaaGreatGa
namespace Go.Proofs.YtibmpjhffeinoaaGreat
open Go.RowKit Go.Shelf
attribute [local go_sem] Oper.semAt_some

/-- The body of the first range over a function in a code. -/
def firstRange : Code → Option Code
  | .rangeFunc _ _ _ b => some b
  | .seq a b => match firstRange a with
    | some c => some c
    | none => firstRange b
  | .loop c => firstRange c
  | .block _ c => firstRange c
  | .scope c => firstRange c
  | .cond _ a b => match firstRange a with
    | some c => some c
    | none => firstRange b
  | _ => none
theorem tkI_snoc (L : List Int) (x i : Int) : tkI (L ++ [x]) i = if i = x then 1 else tkI L i := by
  unfold tkI
  by_cases h : i = x
  · simp [h]
  · simp [h]
theorem pu_next (x : Nat) (hx : x < 8) (pl : Int) (wh : Bool) (L : List Int) (A A' : Option Addr) (n c n' c' : Nat) (s s' : Int) :
    (((puCells pl wh L A n c s).setIfInBounds (2 + x) (.int .i64 1)).setIfInBounds 10 (.slice A' n' c')).setIfInBounds 11 (.int .i64 s') = puCells pl wh (L ++ [(x : Int)]) A' n' c' s' := by
  match x, hx with
  | 0, _ => simp [puCells, tkI_snoc]
  | 1, _ => simp [puCells, tkI_snoc]
  | 2, _ => simp [puCells, tkI_snoc]
  | 3, _ => simp [puCells, tkI_snoc]
  | 4, _ => simp [puCells, tkI_snoc]
  | 5, _ => simp [puCells, tkI_snoc]
  | 6, _ => simp [puCells, tkI_snoc]
  | 7, _ => simp [puCells, tkI_snoc]
theorem pu_slid (x : Nat) (hx : x < 8) (pl : Int) (wh : Bool) (L : List Int) (A A' : Option Addr) (n c n' c' : Nat) (s : Int) :
    (((puCells pl wh L A n c s).setIfInBounds (2 + x) (.int .i64 1)).setIfInBounds 10 (.slice A' n' c'))[11]? = some (.int .i64 s) := by
  match x, hx with
  | 0, _ => simp [puCells]
  | 1, _ => simp [puCells]
  | 2, _ => simp [puCells]
  | 3, _ => simp [puCells]
  | 4, _ => simp [puCells]
  | 5, _ => simp [puCells]
  | 6, _ => simp [puCells]
  | 7, _ => simp [puCells]
theorem pu_place (x : Nat) (hx : x < 8) (pl : Int) (wh : Bool) (L : List Int) (A A' : Option Addr) (n c n' c' : Nat) (s : Int) :
    (((puCells pl wh L A n c s).setIfInBounds (2 + x) (.int .i64 1)).setIfInBounds 10 (.slice A' n' c'))[0]? = some (.int .i64 pl) := by
  match x, hx with
  | 0, _ => simp [puCells]
  | 1, _ => simp [puCells]
  | 2, _ => simp [puCells]
  | 3, _ => simp [puCells]
  | 4, _ => simp [puCells]
  | 5, _ => simp [puCells]
  | 6, _ => simp [puCells]
  | 7, _ => simp [puCells]
noncomputable def dropBody : Code := ((Tryz.f167.body.bind firstRange).getD .skip)

set_option maxRecDepth 100000 in
set_option maxHeartbeats 2000000 in
theorem drop_body (l m x b i g base P0 P1 I0 at_ : Nat) (wh : Bool) (A : Option Addr) (n c : Nat) (L : List Int) (s : Int) (W : World) (Q : Exit → Act → World → Prop) (u0 u1 u4 u5 u6 u8 u10 u11 u12 u13 u14 u15 u16 u17 u18 u19 u20 u21 u22 u23 u24 u25 u26 u27 u28 u29 u30 u31 u32 u33 u34 u35 u36 u37 u38 u39 u40 u41 u42 u43 u44 u45 u46 u47 u48 u49 u50 u51 u52 u53 u54 u55 u56 u57 u58 u59 u60 u61 u62 u63 u64 u65 u66 u67 u68 u69 u70 u71 u72 u73 u74 u75 u76 u77 u78 u79 u80 u81 u82 u83 u84 u85 u86 u87 u88 u89 u90 u91 u92 u93 u94 u95 u96 u97 u98 u99 u100 u101 u102 u103 u104 : Value)
    (hO : ∀ a w, ¬ Q .outgrown a w) (hPn : ∀ c a a' w, Q (.panic c) a w → Q (.panic c) a' w) (hbg : base ≤ g) (hx8 : x < 8) (hb8 : b ≤ 8) (hi : i ≤ 1) (hat : at_ ≤ 8) (hn : n ≤ 1048576) (hs : 0 ≤ s ∧ s ≤ 1048576) (hxL : (x : Int) ∉ L)
    (k0 : Bk W P0 119 #[.pointer (some ⟨g, 0, none⟩)]) (k1 : Bk W P1 3 #[.int .i64 (at_ : Int)]) (k7 : Bk W I0 3 #[.int .i64 (i : Int)])
    (kg : Bk W g 128 (puCells (b : Int) wh L A n c s)) (ho : Oi W base A n c L) (hr1 : some P1 ≠ A.map Addr.block) (hr7 : some I0 ≠ A.map Addr.block)
    (hQ : ∀ g3 cap a' W', Bk W' g 128 (puCells (b : Int) wh (L ++ [(x : Int)]) (some ⟨g3, 0, none⟩) (n + 1) cap (s + ((x : Int) - (at_ : Int) + (i : Int) * (b : Int)))) → Oi W' base (some ⟨g3, 0, none⟩) (n + 1) cap (L ++ [(x : Int)]) → Only W W' g (A.map Addr.block) → Q (.exit 0) a' W') :
    dropBody.wpIn (Fence.wide.inRound l) m Tryz.prog Q ⟨#[u0, u1, .pointer (some ⟨P0, 0, none⟩), .pointer (some ⟨P1, 0, none⟩), u4, u5, u6, .pointer (some ⟨I0, 0, none⟩), u8, .int .i64 (x : Int), u10, u11, u12, u13, u14, u15, u16, u17, u18, u19, u20, u21, u22, u23, u24, u25, u26, u27, u28, u29, u30, u31, u32, u33, u34, u35, u36, u37, u38, u39, u40, u41, u42, u43, u44, u45, u46, u47, u48, u49, u50, u51, u52, u53, u54, u55, u56, u57, u58, u59, u60, u61, u62, u63, u64, u65, u66, u67, u68, u69, u70, u71, u72, u73, u74, u75, u76, u77, u78, u79, u80, u81, u82, u83, u84, u85, u86, u87, u88, u89, u90, u91, u92, u93, u94, u95, u96, u97, u98, u99, u100, u101, u102, u103, u104], []⟩ W := by
  conv => arg 4; whnf
  have hx8i : (x : Int) < 8 := by omega
  have hne : g ≠ P0 := fun e => by subst e; have := k0.symm.trans kg; simp at this
  have hmix : Tryz.prog.follows .mixedOrders = true := by kernel_rfl
  have c0 := k0.cell 0
  have c1 := k1.cell 0
  have c7 := k7.cell 0
  have g0 : W.cell? ⟨g, 0, none⟩ = some (.int .i64 (b : Int)) := kg.cell 0
  have gt : W.cell? ⟨g, 2 + x, none⟩ = some (.int .i64 0) := by rw [pu_taken kg hx8, tkI_no hxL]
  have gl : W.cell? ⟨g, 10, none⟩ = some (.slice A n c) := kg.cell 10
  have gs : W.cell? ⟨g, 11, none⟩ = some (.int .i64 s) := kg.cell 11
  have fg := kg.frozen (2 + x)
  have hw1 : IntKind.i64.wrap 1 = 1 := by decide
  have hib0 : 0 ≤ (i : Int) * (b : Int) := Int.mul_nonneg (by omega) (by omega)
  have hib1 : (i : Int) * (b : Int) ≤ 1 * 8 := Int.mul_le_mul (by omega) (by omega) (by omega) (by omega)
  have hw2 : IntKind.i64.wrap ((x : Int) - (at_ : Int)) = (x : Int) - (at_ : Int) := IntWalk.i64_in _ (by omega)
  have hw3 : IntKind.i64.wrap ((i : Int) * (b : Int)) = (i : Int) * (b : Int) := IntWalk.i64_in _ (by omega)
  have hw4 : IntKind.i64.wrap ((x : Int) - (at_ : Int) + (i : Int) * (b : Int)) = (x : Int) - (at_ : Int) + (i : Int) * (b : Int) := IntWalk.i64_in _ (by omega)
  have hw5 : IntKind.i64.wrap (s + ((x : Int) - (at_ : Int) + (i : Int) * (b : Int))) = s + ((x : Int) - (at_ : Int) + (i : Int) * (b : Int)) := IntWalk.i64_in _ (by omega)
  have hr0 := ho.bk_ne k0 (by decide)
  have hrg := ho.bk_ne kg (by decide)
  have hne1 : P1 ≠ g := fun e => by subst e; have := k1.symm.trans kg; simp at this
  have hne7 : I0 ≠ g := fun e => by subst e; have := k7.symm.trans kg; simp at this
  gi_wp2
  refine round_held (fun W => W.cell? ⟨P0, 0, none⟩ = some (.pointer (some ⟨g, 0, none⟩))) hmix (by kernel_rfl) hO c0 (fun hS => ?_)
  refine wpAnyH_take (i := 0) (v := ?_) rfl (by kernel_rfl) (by kernel_rfl) (by kernel_rfl) (fun c a w h => hPn c _ _ w h) (Or.inl ⟨by rfl, ?_⟩) (by assumption) ?_
  rotate_left
  · intro w hSw
    (try dsimp only at hSw)
    go_simp
    (try with_reducible rfl)
  try simp (maxSteps := 10000000) only [Act.put, List.setIfInBounds_toArray, List.getElem_toArray]
  try simp only [List.getElem_cons_succ]
  try simp only [List.getElem_cons_zero]
  refine wpAnyH_take (i := 1) (v := ?_) rfl (by kernel_rfl) (by kernel_rfl) (by kernel_rfl) (fun c a w h => hPn c _ _ w h) (Or.inl ⟨by rfl, ?_⟩) (by assumption) ?_
  rotate_left
  · intro w hSw
    (try dsimp only at hSw)
    go_simp
    (try with_reducible rfl)
  try simp (maxSteps := 10000000) only [Act.put, List.setIfInBounds_toArray, List.set_cons_zero, List.set_cons_succ, List.getElem_toArray]
  try simp only [List.getElem_cons_succ]
  try simp only [List.getElem_cons_zero]
  refine wpAnyH_take (i := 2) (v := ?_) rfl (by kernel_rfl) (by kernel_rfl) (by kernel_rfl) (fun c a w h => hPn c _ _ w h) (Or.inl ⟨by rfl, ?_⟩) (by assumption) ?_
  rotate_left
  · intro w hSw
    (try dsimp only at hSw)
    go_simp
    (try with_reducible rfl)
  try simp (maxSteps := 10000000) only [Act.put, List.setIfInBounds_toArray, List.set_cons_zero, List.set_cons_succ, List.getElem_toArray]
  try simp only [List.getElem_cons_succ]
  try simp only [List.getElem_cons_zero]
  refine wpAnyH_take (i := 3) (v := ?_) rfl (by kernel_rfl) (by kernel_rfl) (by kernel_rfl) (fun c a w h => hPn c _ _ w h) (Or.inl ⟨by rfl, ?_⟩) (by assumption) ?_
  rotate_left
  · intro w hSw
    (try dsimp only at hSw)
    go_simp
    (try with_reducible rfl)
  try simp (maxSteps := 10000000) only [Act.put, List.setIfInBounds_toArray, List.set_cons_zero, List.set_cons_succ, List.getElem_toArray]
  try simp only [List.getElem_cons_succ]
  try simp only [List.getElem_cons_zero]
  refine wpAnyH_take (i := 4) (v := ?_) rfl (by kernel_rfl) (by kernel_rfl) (by kernel_rfl) (fun c a w h => hPn c _ _ w h) (Or.inl ⟨by rfl, ?_⟩) (by assumption) ?_
  rotate_left
  · intro w hSw
    (try dsimp only at hSw)
    go_simp
    (try with_reducible rfl)
  try simp (maxSteps := 10000000) only [Act.put, List.setIfInBounds_toArray, List.set_cons_zero, List.set_cons_succ, List.getElem_toArray]
  try simp only [List.getElem_cons_succ]
  try simp only [List.getElem_cons_zero]
  refine wpAnyH_take (i := 7) (v := ?_) rfl (by kernel_rfl) (by kernel_rfl) (by kernel_rfl) (fun c a w h => hPn c _ _ w h) (Or.inl ⟨by rfl, ?_⟩) (by assumption) ?_
  rotate_left
  · intro w hSw
    (try dsimp only at hSw)
    go_simp
    (try with_reducible rfl)
  try simp (maxSteps := 10000000) only [Act.put, List.setIfInBounds_toArray, List.set_cons_zero, List.set_cons_succ, List.getElem_toArray]
  try simp only [List.getElem_cons_succ]
  try simp only [List.getElem_cons_zero]
  refine wpAnyH_take (i := 8) (v := ?_) rfl (by kernel_rfl) (by kernel_rfl) (by kernel_rfl) (fun c a w h => hPn c _ _ w h) (Or.inl ⟨by rfl, ?_⟩) (by assumption) ?_
  rotate_left
  · intro w hSw
    (try dsimp only at hSw)
    go_simp
    (try with_reducible rfl)
  try simp (maxSteps := 10000000) only [Act.put, List.setIfInBounds_toArray, List.set_cons_zero, List.set_cons_succ, List.getElem_toArray]
  try simp only [List.getElem_cons_succ]
  try simp only [List.getElem_cons_zero]
  refine wpAnyH_ready (rs := [5]) (by kernel_rfl) (by simp) ?_
  refine AllReadyH.cons rfl (fun K hK => ?_) AllReadyH.nil
  go_simp
  refine hK.out _ _ ?_ (fun hS => ?_)
  · exact hS
  clear hK K
  try simp (maxSteps := 10000000) only [Act.put, List.setIfInBounds_toArray, List.set_cons_zero, List.set_cons_succ, List.getElem_toArray]
  try simp only [List.getElem_cons_succ]
  try simp only [List.getElem_cons_zero]
  refine wpAnyH_take (i := 6) (v := ?_) rfl (by kernel_rfl) (by kernel_rfl) (by kernel_rfl) (fun c a w h => hPn c _ _ w h) (Or.inl ⟨by rfl, ?_⟩) (by assumption) ?_
  rotate_left
  · intro w hSw
    (try dsimp only at hSw)
    go_simp
    (try with_reducible rfl)
  try simp (maxSteps := 10000000) only [Act.put, List.setIfInBounds_toArray, List.getElem_toArray]
  try simp only [List.getElem_cons_succ]
  try simp only [List.getElem_cons_zero]
  refine wpAnyH_take (i := 9) (v := ?_) rfl (by kernel_rfl) (by kernel_rfl) (by kernel_rfl) (fun c a w h => hPn c _ _ w h) (Or.inl ⟨by rfl, ?_⟩) (by assumption) ?_
  rotate_left
  · intro w hSw
    (try dsimp only at hSw)
    go_simp
    (try with_reducible rfl)
  try simp (maxSteps := 10000000) only [Act.put, List.setIfInBounds_toArray, List.set_cons_zero, List.set_cons_succ, List.getElem_toArray]
  try simp only [List.getElem_cons_succ]
  try simp only [List.getElem_cons_zero]
  refine wpAnyH_ready (rs := [10]) (by kernel_rfl) (by simp) ?_
  refine AllReadyH.cons rfl (fun K hK => ?_) AllReadyH.nil
  go_simp
  refine hK.out _ _ ?_ (fun hS => ?_)
  · go_simp
  clear hK K
  try simp (maxSteps := 10000000) only [Act.put, List.setIfInBounds_toArray, List.set_cons_zero, List.set_cons_succ, List.getElem_toArray]
  try simp only [List.getElem_cons_succ]
  try simp only [List.getElem_cons_zero]
  refine wpAnyH_done (by kernel_rfl) ?_ _
  obtain ⟨W2, hW2⟩ : ∃ W2 : World, (W.setCell ⟨g, 2 + x, none⟩ (.int .i64 1)).drew = W2 := ⟨_, rfl⟩
  have O2 : Only W W2 g (A.map Addr.block) := by rw [← hW2]; exact ((Only.refl W g _).setCell _ _).drew
  have kg2 : Bk W2 g 128 ((puCells (b : Int) wh L A n c s).setIfInBounds (2 + x) (.int .i64 1)) := by rw [← hW2]; exact (kg.set_ _ _).drew
  have ho2 : Oi W2 base A n c L := by rw [← hW2]; exact (ho.setOther (p := ⟨g, 2 + x, none⟩) hrg _).drew
  rw [hW2]
  clear hW2 hS gt fg c0 c1 c7 g0 gl gs
  have k02 := O2.bk k0 (Ne.symm hne) hr0
  have c0 := k02.cell 0
  have hP0 : P0 < W2.heap.size := k02.lt
  have hg2 : g < W2.heap.size := kg2.lt
  have gl : W2.cell? ⟨g, 10, none⟩ = some (.slice A n c) := (kg2.cell 10).trans (by
    match x, hx8 with
    | 0, _ => rfl
    | 1, _ => rfl
    | 2, _ => rfl
    | 3, _ => rfl
    | 4, _ => rfl
    | 5, _ => rfl
    | 6, _ => rfl
    | 7, _ => rfl)
  have glA : (W2.alloc (.cells #[.int .i64 (x : Int)] 3)).cell? ⟨g, 10, none⟩ = some (.slice A n c) := cell_old _ gl
  gi_wp2
  refine round_held (fun W => W.cell? ⟨P0, 0, none⟩ = some (.pointer (some ⟨g, 0, none⟩))) hmix (by kernel_rfl) hO c0 (fun hS => ?_)
  refine wpAnyH_take (i := 0) (v := ?_) rfl (by kernel_rfl) (by kernel_rfl) (by kernel_rfl) (fun c a w h => hPn c _ _ w h) (Or.inl ⟨by rfl, ?_⟩) (by assumption) ?_
  rotate_left
  · intro w hSw
    (try dsimp only at hSw)
    go_simp
    (try with_reducible rfl)
  try simp (maxSteps := 10000000) only [Act.put, List.setIfInBounds_toArray, List.getElem_toArray]
  try simp only [List.getElem_cons_succ]
  try simp only [List.getElem_cons_zero]
  refine wpAnyH_take (i := 1) (v := ?_) rfl (by kernel_rfl) (by kernel_rfl) (by kernel_rfl) (fun c a w h => hPn c _ _ w h) (Or.inl ⟨by rfl, ?_⟩) (by assumption) ?_
  rotate_left
  · intro w hSw
    (try dsimp only at hSw)
    go_simp
    (try with_reducible rfl)
  try simp (maxSteps := 10000000) only [Act.put, List.setIfInBounds_toArray, List.set_cons_zero, List.set_cons_succ, List.getElem_toArray]
  try simp only [List.getElem_cons_succ]
  try simp only [List.getElem_cons_zero]
  refine wpAnyH_take (i := 2) (v := ?_) rfl (by kernel_rfl) (by kernel_rfl) (by kernel_rfl) (fun c a w h => hPn c _ _ w h) (Or.inl ⟨by rfl, ?_⟩) (by assumption) ?_
  rotate_left
  · intro w hSw
    (try dsimp only at hSw)
    go_simp
    (try with_reducible rfl)
  try simp (maxSteps := 10000000) only [Act.put, List.setIfInBounds_toArray, List.set_cons_zero, List.set_cons_succ, List.getElem_toArray]
  try simp only [List.getElem_cons_succ]
  try simp only [List.getElem_cons_zero]
  refine wpAnyH_take (i := 3) (v := ?_) rfl (by kernel_rfl) (by kernel_rfl) (by kernel_rfl) (fun c a w h => hPn c _ _ w h) (Or.inl ⟨by rfl, ?_⟩) (by assumption) ?_
  rotate_left
  · intro w hSw
    (try dsimp only at hSw)
    go_simp
    (try with_reducible rfl)
  try simp (maxSteps := 10000000) only [Act.put, List.setIfInBounds_toArray, List.set_cons_zero, List.set_cons_succ, List.getElem_toArray]
  try simp only [List.getElem_cons_succ]
  try simp only [List.getElem_cons_zero]
  refine wpAnyH_take (i := 5) (v := ?_) rfl (by kernel_rfl) (by kernel_rfl) (by kernel_rfl) (fun c a w h => hPn c _ _ w h) (Or.inl ⟨by rfl, ?_⟩) (by assumption) ?_
  rotate_left
  · intro w hSw
    (try dsimp only at hSw)
    go_simp
    (try with_reducible rfl)
  try simp (maxSteps := 10000000) only [Act.put, List.setIfInBounds_toArray, List.set_cons_zero, List.set_cons_succ, List.getElem_toArray]
  try simp only [List.getElem_cons_succ]
  try simp only [List.getElem_cons_zero]
  refine wpAnyH_ready (rs := [4, 6]) (by kernel_rfl) (by simp) ?_
  refine AllReadyH.cons rfl (fun K hK => ?_) (AllReadyH.cons rfl (fun K hK => ?_) AllReadyH.nil)
  go_simp
  refine hK.out _ _ ?_ (fun hS => ?_)
  · exact hS
  clear hK K
  try simp only [Act.put, List.setIfInBounds_toArray]
  try simp only [List.set_cons_zero, List.set_cons_succ]
  refine wpAnyH_ready (rs := [6]) (by kernel_rfl) (by simp) ?_
  refine AllReadyH.cons rfl (fun K hK => ?_) AllReadyH.nil
  go_simp
  refine hK.out _ _ ?_ (fun hS => ?_)
  · exact cell_old _ c0
  clear hK K
  try simp (maxSteps := 10000000) only [Act.put, List.setIfInBounds_toArray, List.set_cons_zero, List.set_cons_succ, List.getElem_toArray]
  try simp only [List.getElem_cons_succ]
  try simp only [List.getElem_cons_zero]
  rotate_left
  go_simp
  refine hK.out _ _ ?_ (fun hS => ?_)
  · exact cell_old _ c0
  clear hK K
  try simp only [Act.put, List.setIfInBounds_toArray]
  try simp only [List.set_cons_zero, List.set_cons_succ]
  refine wpAnyH_ready (rs := [4]) (by kernel_rfl) (by simp) ?_
  refine AllReadyH.cons rfl (fun K hK => ?_) AllReadyH.nil
  go_simp
  refine hK.out _ _ ?_ (fun hS => ?_)
  · exact hS
  clear hK K
  try simp (maxSteps := 10000000) only [Act.put, List.setIfInBounds_toArray, List.set_cons_zero, List.set_cons_succ, List.getElem_toArray]
  try simp only [List.getElem_cons_succ]
  try simp only [List.getElem_cons_zero]
  all_goals
    refine wpAnyH_ready (rs := [7]) (by kernel_rfl) (by simp) ?_
    refine AllReadyH.cons rfl (fun K hK => ?_) AllReadyH.nil
    refine step_push rfl (.tmp 51) (.tmp 53) rfl base A n c L rfl (ho2.alloc _).drew ⟨W2.heap.size, 0, none⟩ 1 (x : Int) rfl (cell_new1 W2 _ _) (by omega) (by show base ≤ (W2.alloc _).heap.size; rw [World.size_alloc]; omega) ?_
    intro g3 cap W3 ho3 hg3
    refine hK.out _ _ ?_ (fun hS => ?_)
    · exact (World.grownBy.cell hg3 (cell_old _ c0) hr0)
    clear hK K
    try simp only [Act.put, List.setIfInBounds_toArray]
    try simp only [List.set_cons_zero, List.set_cons_succ]
    have kg3 : Bk W3 g 128 ((puCells (b : Int) wh L A n c s).setIfInBounds (2 + x) (.int .i64 1)) := ((kg2.alloc _).drew).grown hg3 hrg
    have O3 : Only W W3 g (A.map Addr.block) := ((O2.alloc _).drew).grown hg3 rfl
    have f10 := kg3.frozen 10
    have g10 : (W3.cell? ⟨g, 10, none⟩) = some (.slice A n c) := (World.grownBy.cell hg3 (cell_old _ gl) hrg)
    refine wpAnyH_take (i := 8) (v := ?_) rfl (by kernel_rfl) (by kernel_rfl) (by kernel_rfl) (fun c a w h => hPn c _ _ w h) (Or.inl ⟨by rfl, ?_⟩) (by assumption) ?_
    rotate_left
    · intro w hSw
      (try dsimp only at hSw)
      go_simp
      (try with_reducible rfl)
    try simp (maxSteps := 10000000) only [Act.put, List.getElem_toArray]
    try simp only [List.getElem_cons_succ]
    try simp only [List.getElem_cons_zero]
    refine wpAnyH_take (i := 9) (v := ?_) rfl (by kernel_rfl) (by kernel_rfl) (by kernel_rfl) (fun c a w h => hPn c _ _ w h) (Or.inl ⟨by rfl, ?_⟩) (by assumption) ?_
    rotate_left
    · intro w hSw
      (try dsimp only at hSw)
      go_simp
      (try with_reducible rfl)
    try simp (maxSteps := 10000000) only [Act.put, List.setIfInBounds_toArray, List.set_cons_zero, List.set_cons_succ, List.getElem_toArray]
    try simp only [List.getElem_cons_succ]
    try simp only [List.getElem_cons_zero]
    refine wpAnyH_ready (rs := [10]) (by kernel_rfl) (by simp) ?_
    refine AllReadyH.cons rfl (fun K hK => ?_) AllReadyH.nil
    go_simp
    refine hK.out _ _ ?_ (fun hS => ?_)
    · go_simp
    clear hK K
    try simp (maxSteps := 10000000) only [Act.put, List.setIfInBounds_toArray, List.set_cons_zero, List.set_cons_succ, List.getElem_toArray]
    try simp only [List.getElem_cons_succ]
    try simp only [List.getElem_cons_zero]
    refine wpAnyH_done (by kernel_rfl) ?_ _
    obtain ⟨W4, hW4⟩ : ∃ W4 : World, (W3.setCell ⟨g, 10, none⟩ (.slice (some ⟨g3, 0, none⟩) (n + 1) cap)) = W4 := ⟨_, rfl⟩
    have O4 : Only W W4 g (A.map Addr.block) := by rw [← hW4]; exact O3.setCell _ _
    have kg4 := kg3.set_ 10 (.slice (some ⟨g3, 0, none⟩) (n + 1) cap)
    rw [hW4] at kg4
    have ho4 : Oi W4 base (some ⟨g3, 0, none⟩) (n + 1) cap (L ++ [(x : Int)]) := by rw [← hW4]; exact ho3.setOther (p := ⟨g, 10, none⟩) (ho3.bk_ne kg3 (by decide)) _
    rw [hW4]
    clear hW4 hS gl glA g10 f10 c0 hP0 hg2
    have c0 := (O4.bk k0 (Ne.symm hne) hr0).cell 0
    have c1 := (O4.bk k1 hne1 hr1).cell 0
    have c7 := (O4.bk k7 hne7 hr7).cell 0
    have g0 : W4.cell? ⟨g, 0, none⟩ = some (.int .i64 (b : Int)) := (kg4.cell 0).trans (pu_place x hx8 _ _ _ _ _ _ _ _ _ _)
    have g11 : W4.cell? ⟨g, 11, none⟩ = some (.int .i64 s) := (kg4.cell 11).trans (pu_slid x hx8 _ _ _ _ _ _ _ _ _ _)
    have f11 := kg4.frozen 11
    gi_wp2
    refine round_held (fun W => W.cell? ⟨P0, 0, none⟩ = some (.pointer (some ⟨g, 0, none⟩)) ∧ W.cell? ⟨P1, 0, none⟩ = some (.int .i64 (at_ : Int)) ∧ W.cell? ⟨I0, 0, none⟩ = some (.int .i64 (i : Int)) ∧ W.cell? ⟨g, 0, none⟩ = some (.int .i64 (b : Int))) hmix (by kernel_rfl) hO ⟨c0, c1, c7, g0⟩ (fun hS => ?_)
    refine wpAnyH_take (i := 0) (v := ?_) rfl (by kernel_rfl) (by kernel_rfl) (by kernel_rfl) (fun c a w h => hPn c _ _ w h) (Or.inl ⟨by rfl, ?_⟩) (by assumption) ?_
    rotate_left
    · intro w hSw
      (try dsimp only at hSw)
      go_simp
      (try with_reducible rfl)
    try simp (maxSteps := 10000000) only [Act.put, List.setIfInBounds_toArray, List.getElem_toArray]
    try simp only [List.getElem_cons_succ]
    try simp only [List.getElem_cons_zero]
    refine wpAnyH_take (i := 1) (v := ?_) rfl (by kernel_rfl) (by kernel_rfl) (by kernel_rfl) (fun c a w h => hPn c _ _ w h) (Or.inl ⟨by rfl, ?_⟩) (by assumption) ?_
    rotate_left
    · intro w hSw
      (try dsimp only at hSw)
      go_simp
      (try with_reducible rfl)
    try simp (maxSteps := 10000000) only [Act.put, List.setIfInBounds_toArray, List.set_cons_zero, List.set_cons_succ, List.getElem_toArray]
    try simp only [List.getElem_cons_succ]
    try simp only [List.getElem_cons_zero]
    refine wpAnyH_take (i := 2) (v := ?_) rfl (by kernel_rfl) (by kernel_rfl) (by kernel_rfl) (fun c a w h => hPn c _ _ w h) (Or.inl ⟨by rfl, ?_⟩) (by assumption) ?_
    rotate_left
    · intro w hSw
      (try dsimp only at hSw)
      go_simp
      (try with_reducible rfl)
    try simp (maxSteps := 10000000) only [Act.put, List.setIfInBounds_toArray, List.set_cons_zero, List.set_cons_succ, List.getElem_toArray]
    try simp only [List.getElem_cons_succ]
    try simp only [List.getElem_cons_zero]
    refine wpAnyH_take (i := 4) (v := ?_) rfl (by kernel_rfl) (by kernel_rfl) (by kernel_rfl) (fun c a w h => hPn c _ _ w h) (Or.inl ⟨by rfl, ?_⟩) (by assumption) ?_
    rotate_left
    · intro w hSw
      (try dsimp only at hSw)
      go_simp
      (try with_reducible rfl)
    try simp (maxSteps := 10000000) only [Act.put, List.setIfInBounds_toArray, List.set_cons_zero, List.set_cons_succ, List.getElem_toArray]
    try simp only [List.getElem_cons_succ]
    try simp only [List.getElem_cons_zero]
    refine wpAnyH_take (i := 5) (v := ?_) rfl (by kernel_rfl) (by kernel_rfl) (by kernel_rfl) (fun c a w h => hPn c _ _ w h) (Or.inl ⟨by rfl, ?_⟩) (by assumption) ?_
    rotate_left
    · intro w hSw
      (try dsimp only at hSw)
      go_simp
      (try with_reducible rfl)
    try simp (maxSteps := 10000000) only [Act.put, List.setIfInBounds_toArray, List.set_cons_zero, List.set_cons_succ, List.getElem_toArray]
    try simp only [List.getElem_cons_succ]
    try simp only [List.getElem_cons_zero]
    refine wpAnyH_take (i := 6) (v := ?_) rfl (by kernel_rfl) (by kernel_rfl) (by kernel_rfl) (fun c a w h => hPn c _ _ w h) (Or.inl ⟨by rfl, ?_⟩) (by assumption) ?_
    rotate_left
    · intro w hSw
      (try dsimp only at hSw)
      go_simp
      (try with_reducible rfl)
    try simp (maxSteps := 10000000) only [Act.put, List.setIfInBounds_toArray, List.set_cons_zero, List.set_cons_succ, List.getElem_toArray]
    try simp only [List.getElem_cons_succ]
    try simp only [List.getElem_cons_zero]
    refine wpAnyH_take (i := 7) (v := ?_) rfl (by kernel_rfl) (by kernel_rfl) (by kernel_rfl) (fun c a w h => hPn c _ _ w h) (Or.inl ⟨by rfl, ?_⟩) (by assumption) ?_
    rotate_left
    · intro w hSw
      (try dsimp only at hSw)
      go_simp
      (try with_reducible rfl)
    try simp (maxSteps := 10000000) only [Act.put, List.setIfInBounds_toArray, List.set_cons_zero, List.set_cons_succ, List.getElem_toArray]
    try simp only [List.getElem_cons_succ]
    try simp only [List.getElem_cons_zero]
    refine wpAnyH_take (i := 8) (v := ?_) rfl (by kernel_rfl) (by kernel_rfl) (by kernel_rfl) (fun c a w h => hPn c _ _ w h) (Or.inl ⟨by rfl, ?_⟩) (by assumption) ?_
    rotate_left
    · intro w hSw
      (try dsimp only at hSw)
      go_simp
      (try with_reducible rfl)
    try simp (maxSteps := 10000000) only [Act.put, List.setIfInBounds_toArray, List.set_cons_zero, List.set_cons_succ, List.getElem_toArray]
    try simp only [List.getElem_cons_succ]
    try simp only [List.getElem_cons_zero]
    refine wpAnyH_take (i := 9) (v := ?_) rfl (by kernel_rfl) (by kernel_rfl) (by kernel_rfl) (fun c a w h => hPn c _ _ w h) (Or.inl ⟨by rfl, ?_⟩) (by assumption) ?_
    rotate_left
    · intro w hSw
      (try dsimp only at hSw)
      go_simp
      (try with_reducible rfl)
    try simp (maxSteps := 10000000) only [Act.put, List.setIfInBounds_toArray, List.set_cons_zero, List.set_cons_succ, List.getElem_toArray]
    try simp only [List.getElem_cons_succ]
    try simp only [List.getElem_cons_zero]
    refine wpAnyH_take (i := 10) (v := ?_) rfl (by kernel_rfl) (by kernel_rfl) (by kernel_rfl) (fun c a w h => hPn c _ _ w h) (Or.inl ⟨by rfl, ?_⟩) (by assumption) ?_
    rotate_left
    · intro w hSw
      (try dsimp only at hSw)
      go_simp
      (try with_reducible rfl)
    try simp (maxSteps := 10000000) only [Act.put, List.setIfInBounds_toArray, List.set_cons_zero, List.set_cons_succ, List.getElem_toArray]
    try simp only [List.getElem_cons_succ]
    try simp only [List.getElem_cons_zero]
    refine wpAnyH_take (i := 11) (v := ?_) rfl (by kernel_rfl) (by kernel_rfl) (by kernel_rfl) (fun c a w h => hPn c _ _ w h) (Or.inl ⟨by rfl, ?_⟩) (by assumption) ?_
    rotate_left
    · intro w hSw
      (try dsimp only at hSw)
      go_simp
      (try with_reducible rfl)
    try simp (maxSteps := 10000000) only [Act.put, List.setIfInBounds_toArray, List.set_cons_zero, List.set_cons_succ, List.getElem_toArray]
    try simp only [List.getElem_cons_succ]
    try simp only [List.getElem_cons_zero]
    refine wpAnyH_take (i := 12) (v := ?_) rfl (by kernel_rfl) (by kernel_rfl) (by kernel_rfl) (fun c a w h => hPn c _ _ w h) (Or.inl ⟨by rfl, ?_⟩) (by assumption) ?_
    rotate_left
    · intro w hSw
      (try dsimp only at hSw)
      go_simp
      (try with_reducible rfl)
    try simp (maxSteps := 10000000) only [Act.put, List.setIfInBounds_toArray, List.set_cons_zero, List.set_cons_succ, List.getElem_toArray]
    try simp only [List.getElem_cons_succ]
    try simp only [List.getElem_cons_zero]
    refine wpAnyH_take (i := 13) (v := ?_) rfl (by kernel_rfl) (by kernel_rfl) (by kernel_rfl) (fun c a w h => hPn c _ _ w h) (Or.inl ⟨by rfl, ?_⟩) (by assumption) ?_
    rotate_left
    · intro w hSw
      (try dsimp only at hSw)
      go_simp
      (try with_reducible rfl)
    try simp (maxSteps := 10000000) only [Act.put, List.setIfInBounds_toArray, List.set_cons_zero, List.set_cons_succ, List.getElem_toArray]
    try simp only [List.getElem_cons_succ]
    try simp only [List.getElem_cons_zero]
    refine wpAnyH_take (i := 14) (v := ?_) rfl (by kernel_rfl) (by kernel_rfl) (by kernel_rfl) (fun c a w h => hPn c _ _ w h) (Or.inl ⟨by rfl, ?_⟩) (by assumption) ?_
    rotate_left
    · intro w hSw
      (try dsimp only at hSw)
      go_simp
      (try with_reducible rfl)
    try simp (maxSteps := 10000000) only [Act.put, List.setIfInBounds_toArray, List.set_cons_zero, List.set_cons_succ, List.getElem_toArray]
    try simp only [List.getElem_cons_succ]
    try simp only [List.getElem_cons_zero]
    refine wpAnyH_ready (rs := [3]) (by kernel_rfl) (by simp) ?_
    refine AllReadyH.cons rfl (fun K hK => ?_) AllReadyH.nil
    go_simp
    refine hK.out _ _ ?_ (fun hS => ?_)
    · exact hS
    clear hK K
    try simp (maxSteps := 10000000) only [Act.put, List.setIfInBounds_toArray, List.set_cons_zero, List.set_cons_succ, List.getElem_toArray]
    try simp only [List.getElem_cons_succ]
    try simp only [List.getElem_cons_zero]
    refine wpAnyH_take (i := 15) (v := ?_) rfl (by kernel_rfl) (by kernel_rfl) (by kernel_rfl) (fun c a w h => hPn c _ _ w h) (Or.inl ⟨by rfl, ?_⟩) (by assumption) ?_
    rotate_left
    · intro w hSw
      (try dsimp only at hSw)
      go_simp
      (try with_reducible rfl)
    try simp (maxSteps := 10000000) only [Act.put, List.setIfInBounds_toArray, List.getElem_toArray]
    try simp only [List.getElem_cons_succ]
    try simp only [List.getElem_cons_zero]
    refine wpAnyH_take (i := 16) (v := ?_) rfl (by kernel_rfl) (by kernel_rfl) (by kernel_rfl) (fun c a w h => hPn c _ _ w h) (Or.inl ⟨by rfl, ?_⟩) (by assumption) ?_
    rotate_left
    · intro w hSw
      (try dsimp only at hSw)
      go_simp
      (try with_reducible rfl)
    try simp (maxSteps := 10000000) only [Act.put, List.setIfInBounds_toArray, List.set_cons_zero, List.set_cons_succ, List.getElem_toArray]
    try simp only [List.getElem_cons_succ]
    try simp only [List.getElem_cons_zero]
    refine wpAnyH_take (i := 17) (v := ?_) rfl (by kernel_rfl) (by kernel_rfl) (by kernel_rfl) (fun c a w h => hPn c _ _ w h) (Or.inl ⟨by rfl, ?_⟩) (by assumption) ?_
    rotate_left
    · intro w hSw
      (try dsimp only at hSw)
      go_simp
      (try with_reducible rfl)
    try simp (maxSteps := 10000000) only [Act.put, List.setIfInBounds_toArray, List.set_cons_zero, List.set_cons_succ, List.getElem_toArray]
    try simp only [List.getElem_cons_succ]
    try simp only [List.getElem_cons_zero]
    refine wpAnyH_ready (rs := [18]) (by kernel_rfl) (by simp) ?_
    refine AllReadyH.cons rfl (fun K hK => ?_) AllReadyH.nil
    go_simp
    refine hK.out _ _ ?_ (fun hS => ?_)
    · go_simp
    clear hK K
    try simp (maxSteps := 10000000) only [Act.put, List.setIfInBounds_toArray, List.set_cons_zero, List.set_cons_succ, List.getElem_toArray]
    try simp only [List.getElem_cons_succ]
    try simp only [List.getElem_cons_zero]
    refine wpAnyH_done (by kernel_rfl) ?_ _
    gi_wp2
    refine hQ g3 cap _ _ ?_ ?_ ?_
    · have := kg4.set_ 11 (.int .i64 (s + ((x : Int) - (at_ : Int) + (i : Int) * (b : Int))))
      rw [pu_next x hx8] at this
      exact this
    · exact ho4.setOther (p := ⟨g, 11, none⟩) (ho4.bk_ne kg4 (by decide)) _
    · exact (O4.setCell _ _).drew
end Go.Proofs.YtibmpjhffeinoaaGreat

namespace Go.Proofs.YtibmpjhffeinoaaGreat
open Go.RowKit Go.Shelf
attribute [local go_sem] Oper.semAt_some

/-- The first range over a function in a code, whole. -/
def firstRangeWhole : Code → Option Code
  | .rangeFunc a b c d => some (.rangeFunc a b c d)
  | .seq a b => match firstRangeWhole a with
    | some c => some c
    | none => firstRangeWhole b
  | .loop c => firstRangeWhole c
  | .block _ c => firstRangeWhole c
  | .scope c => firstRangeWhole c
  | .cond _ a b => match firstRangeWhole a with
    | some c => some c
    | none => firstRangeWhole b
  | _ => none
noncomputable def dropRange : Code := ((Tryz.f167.body.bind firstRangeWhole).getD .skip)

/-- All blocks of cells but g and row r are as they were. -/
def Kc (W W' : World) (g : Nat) (r : Option Nat) : Prop := ∀ k t cs, k ≠ g → some k ≠ r → Bk W k t cs → Bk W' k t cs
def Ka (W W' : World) : Prop := ∀ k t cs, Bk W k t cs → Bk W' k t cs
def Kd (W W' : World) (g : Nat) (r : Option Nat) : Prop := ∀ k o, k < W.heap.size → k ≠ g → some k ≠ r → W.heap[k]? = some o → W'.heap[k]? = some o
theorem Kd.from_ {β : Type} (W : World) (g : Nat) (r : Option Nat) : OwnFrom W.heap.size (fun (_ : β) W' => W.heap.size ≤ W'.heap.size ∧ Kd W W' g r) := fun s A C row hs hg hr =>
  ⟨Nat.le_trans hs.1 hg.size, fun k o h0 h1 h2 h3 => (hg.block k (Nat.lt_of_lt_of_le h0 hs.1) fun e => absurd (hr k e.symm).1 (by omega)).trans (hs.2 k o h0 h1 h2 h3)⟩
theorem Kc.from_ {β : Type} (B : Nat) (W : World) (g : Nat) (r : Option Nat) : OwnFrom B (fun (_ : β) W' => Kc W W' g r) := fun s A C row hs hg hr k t cs h1 h2 h3 => Bk.from_ (β := β) B k t cs s A C row (hs k t cs h1 h2 h3) hg hr
theorem Ka.from_ {β : Type} (B : Nat) (W : World) : OwnFrom B (fun (_ : β) W' => Ka W W') := fun s A C row hs hg hr k t cs h3 => Bk.from_ (β := β) B k t cs s A C row (hs k t cs h3) hg hr
theorem Only.keeps {W W' : World} {g base n c : Nat} {A : Option Addr} {xs : List Int} {t : TypeId} {cs : Array Value} (h : Only W W' g (A.map Addr.block)) (hg : Bk W g t cs) (ho : Oi W base A n c xs) (B : Nat) : KeepsFrom B W W' :=
  ⟨h.size, fun k o _ hk hc => (h.block k (Array.getElem?_eq_some_iff.1 hk).1 (fun e => by
      subst e
      rw [show W.heap[k]? = _ from hg] at hk
      cases hk
      cases hc) (fun e => by
      cases A with
      | none => cases e
      | some ad =>
        rcases ho.2 with ⟨h', _⟩ | ⟨g', cap', cur, h', _, hg', _⟩
        · cases h'
        · have hA : ad = ⟨g', 0, none⟩ := by injection h' with h1; injection h1
          subst hA
          have : k = g' := by simpa using e
          subst this
          rw [hg'] at hk
          cases hk
          cases hc)).trans hk⟩

set_option maxRecDepth 100000 in
set_option maxHeartbeats 2000000 in
theorem drop_range (b g base P0 P1 I0 FB PB at_ i st : Nat) (wh : Bool) (A : Option Addr) (n c : Nat) (L : List Int) (s : Int) (W : World) (Q : Exit → Act → World → Prop) (ds : List Deferred) (u0 u1 u4 u5 u6 u8 u9 u10 u11 u12 u13 u14 u15 u16 u17 u18 u19 u20 u21 u22 u23 u24 u25 u26 u27 u28 u29 u30 u31 u32 u33 u34 u36 u37 u38 u39 u40 u41 u42 u43 u44 u45 u46 u47 u48 u49 u50 u51 u52 u53 u54 u55 u56 u57 u58 u59 u60 u61 u62 u63 u64 u65 u66 u67 u68 u69 u70 u71 u72 u73 u74 u75 u76 u77 u78 u79 u80 u81 u82 u83 u84 u85 u86 u87 u88 u89 u90 u91 u92 u93 u94 u95 u96 u97 u98 u99 u100 u101 u102 u103 u104 : Value)
    (hbg : base ≤ g) (hb8 : b ≤ 8) (hi : i ≤ 1) (hat : at_ ≤ 8) (hst : st ≤ b) (hn : n ≤ 1048576) (hs : 0 ≤ s ∧ s ≤ 1048576)
    (k0 : Bk W P0 119 #[.pointer (some ⟨g, 0, none⟩)]) (k1 : Bk W P1 3 #[.int .i64 (at_ : Int)]) (k7 : Bk W I0 3 #[.int .i64 (i : Int)])
    (kf : Bk W FB 3 #[.int .i64 (st : Int)]) (kp : Bk W PB 119 #[.pointer (some ⟨g, 0, none⟩)])
    (kg : Bk W g 128 (puCells (b : Int) wh L A n c s)) (ho : Oi W base A n c L) (hr1 : some P1 ≠ A.map Addr.block) (hr7 : some I0 ≠ A.map Addr.block)
    (hQ1 : ∀ (k g3 cap D : Nat) (W' : World), k < b → st ≤ k → slid1 (b : Int) L (st : Int) = (k : Int) →
      Bk W' g 128 (puCells (b : Int) wh (L ++ [(k : Int)]) (some ⟨g3, 0, none⟩) (n + 1) cap (s + ((k : Int) - (at_ : Int) + (i : Int) * (b : Int)))) → Oi W' base (some ⟨g3, 0, none⟩) (n + 1) cap (L ++ [(k : Int)]) →
      Kc W W' g (A.map Addr.block) → (W.heap.size ≤ W'.heap.size ∧ Kd W W' g (A.map Addr.block)) → Below base W W' → W'.heap[D]? = some (.deferred (some [])) → W.heap.size ≤ D → Q (.exit 0) ⟨#[u0, u1, .pointer (some ⟨P0, 0, none⟩), .pointer (some ⟨P1, 0, none⟩), u4, u5, u6, .pointer (some ⟨I0, 0, none⟩), u8, u9, u10, u11, u12, u13, u14, u15, u16, u17, u18, u19, u20, u21, u22, u23, u24, u25, u26, u27, u28, u29, u30, u31, u32, u33, u34, .func (.func 341) #[] #[.pointer (some ⟨FB, 0, none⟩), .pointer (some ⟨PB, 0, none⟩)], u36, u37, u38, u39, u40, u41, u42, u43, u44, u45, u46, u47, u48, u49, u50, u51, u52, u53, u54, u55, u56, u57, u58, u59, u60, u61, u62, u63, u64, u65, u66, u67, u68, u69, u70, u71, u72, u73, u74, u75, u76, u77, u78, u79, u80, u81, u82, u83, u84, u85, u86, u87, u88, u89, u90, u91, u92, u93, u94, u95, u96, u97, u98, u99, u100, u101, u102, u103, u104], { target := .collected D, args := #[] } :: ds⟩ W')
    (hQ2 : ∀ (D : Nat) (W' : World), slid1 (b : Int) L (st : Int) = (b : Int) → Oi W' base A n c L → Ka W W' → (W.heap.size ≤ W'.heap.size ∧ Kd W W' g (A.map Addr.block)) → Below base W W' → W'.heap[D]? = some (.deferred (some [])) → W.heap.size ≤ D → Q .normal ⟨#[u0, u1, .pointer (some ⟨P0, 0, none⟩), .pointer (some ⟨P1, 0, none⟩), u4, u5, u6, .pointer (some ⟨I0, 0, none⟩), u8, u9, u10, u11, u12, u13, u14, u15, u16, u17, u18, u19, u20, u21, u22, u23, u24, u25, u26, u27, u28, u29, u30, u31, u32, u33, u34, .func (.func 341) #[] #[.pointer (some ⟨FB, 0, none⟩), .pointer (some ⟨PB, 0, none⟩)], u36, u37, u38, u39, u40, u41, u42, u43, u44, u45, u46, u47, u48, u49, u50, u51, u52, u53, u54, u55, u56, u57, u58, u59, u60, u61, u62, u63, u64, u65, u66, u67, u68, u69, u70, u71, u72, u73, u74, u75, u76, u77, u78, u79, u80, u81, u82, u83, u84, u85, u86, u87, u88, u89, u90, u91, u92, u93, u94, u95, u96, u97, u98, u99, u100, u101, u102, u103, u104], { target := .collected D, args := #[] } :: ds⟩ W') :
    dropRange.wp Tryz.prog Q ⟨#[u0, u1, .pointer (some ⟨P0, 0, none⟩), .pointer (some ⟨P1, 0, none⟩), u4, u5, u6, .pointer (some ⟨I0, 0, none⟩), u8, u9, u10, u11, u12, u13, u14, u15, u16, u17, u18, u19, u20, u21, u22, u23, u24, u25, u26, u27, u28, u29, u30, u31, u32, u33, u34, .func (.func 341) #[] #[.pointer (some ⟨FB, 0, none⟩), .pointer (some ⟨PB, 0, none⟩)], u36, u37, u38, u39, u40, u41, u42, u43, u44, u45, u46, u47, u48, u49, u50, u51, u52, u53, u54, u55, u56, u57, u58, u59, u60, u61, u62, u63, u64, u65, u66, u67, u68, u69, u70, u71, u72, u73, u74, u75, u76, u77, u78, u79, u80, u81, u82, u83, u84, u85, u86, u87, u88, u89, u90, u91, u92, u93, u94, u95, u96, u97, u98, u99, u100, u101, u102, u103, u104], ds⟩ W := by
  conv => arg 2; whnf
  have hsb : base ≤ W.heap.size := by have := kg.lt; omega
  refine (wpIn_wide (n := 5)).1 ?_
  refine wpIn_rangeFunc_ownG rfl (by decide) (gf := 341) (lb := #[.pointer (some ⟨FB, 0, none⟩), .pointer (some ⟨PB, 0, none⟩)]) rfl trivial (enters_of Tryz.func341 (by kernel_rfl) rfl)
    (free1_stops Fence.wide (5 - 1) trivial rfl (by decide) PB FB g W.heap.size st b wh L A n c s hb8 hst W kp.lt kf.lt kg.lt (Nat.le_refl _) (kp.cell 0) (kf.cell 0) kg) belowK_t (belowK_b (Nat.le_refl _)) (Below.refl _ _) (fun _ => rfl)
    (fun pre W' => (pre = [] ∧ Ka W W') ∧ ((W.heap.size ≤ W'.heap.size ∧ Kd W W' g (A.map Addr.block)) ∧ (Oi W' base A n c L ∧ Below base W W')))
    (fun c0 pre W' => c0 = .exit 0 ∧ ∃ x : Free L, pre = [x] ∧ ∃ g3 cap : Nat, Bk W' g 128 (puCells (b : Int) wh (L ++ [(x.1 : Int)]) (some ⟨g3, 0, none⟩) (n + 1) cap (s + ((x.1 : Int) - (at_ : Int) + (i : Int) * (b : Int)))) ∧
      Oi W' base (some ⟨g3, 0, none⟩) (n + 1) cap (L ++ [(x.1 : Int)]) ∧ Kc W W' g (A.map Addr.block) ∧ (W.heap.size ≤ W'.heap.size ∧ Kd W W' g (A.map Addr.block)) ∧ Below base W W')
    ?hI ?hIx ?h0 (fun x => ⟨#[u0, u1, .pointer (some ⟨P0, 0, none⟩), .pointer (some ⟨P1, 0, none⟩), u4, u5, u6, .pointer (some ⟨I0, 0, none⟩), u8, .int .i64 (x.1 : Int), u10, u11, u12, u13, u14, u15, u16, u17, u18, u19, u20, u21, u22, u23, u24, u25, u26, u27, u28, u29, u30, u31, u32, u33, u34, .func (.func 341) #[] #[.pointer (some ⟨FB, 0, none⟩), .pointer (some ⟨PB, 0, none⟩)], .int .i64 (x.1 : Int), u37, u38, u39, u40, u41, u42, u43, u44, u45, u46, u47, u48, u49, u50, u51, u52, u53, u54, u55, u56, u57, u58, u59, u60, u61, u62, u63, u64, u65, u66, u67, u68, u69, u70, u71, u72, u73, u74, u75, u76, u77, u78, u79, u80, u81, u82, u83, u84, u85, u86, u87, u88, u89, u90, u91, u92, u93, u94, u95, u96, u97, u98, u99, u100, u101, u102, u103, u104], []⟩) ?assign ?body ?done ?stop
  case hI => exact OwnFrom.and (fun s A C row hs hg hr => ⟨hs.1, Ka.from_ _ W () A C row hs.2 hg hr⟩) (OwnFrom.and (Kd.from_ W g (A.map Addr.block)) (OwnFrom.and (Oi.from_ _ base n c A L) (below_from hsb hsb)))
  case hIx =>
    intro c0 s A' C row hs hg hr
    obtain ⟨h1, x, h2, g3, cap, h3, h4, h5, h5d, h6⟩ := hs
    exact ⟨h1, x, h2, g3, cap, Bk.from_ (β := Unit) _ _ _ _ () A' C row h3 hg hr, Oi.from_ (β := Unit) _ _ _ _ _ _ () A' C row h4 hg hr, Kc.from_ (β := Unit) _ W _ _ () A' C row h5 hg hr, Kd.from_ (β := Unit) W _ _ () A' C row h5d hg hr, below_from (β := Unit) hsb hsb () A' C row h6 hg hr⟩
  case h0 => exact ⟨⟨rfl, fun _ _ _ h => h⟩, ⟨Nat.le_refl _, fun _ _ _ _ _ h => h⟩, ho, Below.refl _ _⟩
  case assign =>
    intro l x W' K hK
    gi_wp2
    exact hK
  case body =>
    rintro l pre x W' ⟨⟨rfl, hka⟩, hkd, ho', hb'⟩ _
    refine drop_body l _ x.1 b i g base P0 P1 I0 at_ wh A n c L s W' _ _ _ _ _ _ _ _ _ _ _ _ _ _ _ _ _ _ _ _ _ _ _ _ _ _ _ _ _ _ _ _ _ _ _ _ _ _ _ _ _ _ _ _ _ _ _ _ _ _ _ _ _ _ _ _ _ _ _ _ _ _ _ _ _ _ _ _ _ _ _ _ _ _ _ _ _ _ _ _ _ _ _ _ _ _ _ _ _ _ _ _ _ _ _ _ _ _ _ _ _ _ (fun _ _ h => h) (fun _ _ _ _ h => h) hbg x.2.1 hb8 hi hat hn hs x.2.2 (hka _ _ _ k0) (hka _ _ _ k1) (hka _ _ _ k7) (hka _ _ _ kg) ho' hr1 hr7 ?_
    intro g3 cap a' W2 h1 h2 h3
    have hkg := hka _ _ _ kg
    exact ⟨h3.keeps hkg ho' _, rfl, x, rfl, g3, cap, h1, h2, fun k t cs e1 e2 e3 => h3.bk (hka _ _ _ e3) e1 e2, ⟨Nat.le_trans hkd.1 h3.size, fun k o e0 e1 e2 e3 => (h3.block k (Nat.lt_of_lt_of_le e0 hkd.1) e1 e2).trans (hkd.2 k o e0 e1 e2 e3)⟩, hb'.trans (h3.below hbg (fun k hk => (ho'.lt k hk).1) (by have := hkg.lt; omega))⟩
  case done =>
    rintro D xs W' hD rfl ⟨⟨hnil, hka⟩, hkd, ho', hb'⟩ hK
    exact hQ2 D W' (slid1_none (b - st) st rfl hst (yl_nil b hb8 hnil)) ho' hka hkd hb' hK hD
  case stop =>
    rintro D c0 pre W' hD ⟨k, hkb, hsk, hkL, hpre⟩ ⟨rfl, x, rfl, g3, cap, h3, h4, h5, h5d, h6⟩ hK
    have h8 : k < 8 := by omega
    rw [yl_yes h8 hsk hkL] at hpre
    have hy : yl L st k = [] := by
      cases hh : yl L st k with
      | nil => rfl
      | cons y ys => rw [hh] at hpre; simp at hpre
    rw [hy] at hpre
    simp only [List.nil_append, List.cons.injEq, and_true] at hpre
    subst hpre
    exact wpIn_exit (hQ1 k g3 cap D W' hkb hsk (slid1_first hkb hkL (k - st) st rfl hsk (yl_nil k (by omega) hy)) h3 h4 h5 h5d h6 hK hD)
end Go.Proofs.YtibmpjhffeinoaaGreat
