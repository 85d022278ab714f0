/-
  The range over all ends.
-/
import Derived.Test.YtaekjnjignlmoaaSt
import Derived.Test.YtaekjnjignlmoaaPY
import Derived.Test.YtaekjnjignlmoaaIt
import Derived.Test.YtaekjnjignlmoaaMp
import Derived.RangeFuncNested
namespace Go.Proofs.Ytaekjnjignlmoaa
open Go.RowKit Go.Shelf Go.Maps

/-- An end in range, as an element of the iterator. -/
abbrev EndT (b : Int) (ps : List (Int × Int)) := {x : T3 // EndIn b ps x}
def endC (x : T3) : Array Value := #[.int .i64 (x.1 : Int), .int .i64 (x.2.1 : Int), .int .i64 (x.2.2 : Int)]
theorem ends_seq (k bx g n c B0 : Nat) (A : Option Addr) (b : Int) (ps : List (Int × Int)) (w : World) (HP : Hid (Pier b ps)) (hbx : Bk w bx 79 #[.pointer (some ⟨g, 0, none⟩)]) (hw : Wk w B0 g A n c b ps) (hB0 : B0 ≤ w.heap.size) :
    SeqStopsK Fence.wide k Try.prog 113 #[.pointer (some ⟨bx, 0, none⟩)] (fun x : EndT b ps => encE x.1) (Ke B0 bx) (fun xs => xs.map (·.1) = endsL b ps) (fun _ => True) (endsL b ps).length w := fun l J Jx W hW hJ hJx hY h0 => by
  have hbxW : Bk W bx 79 #[.pointer (some ⟨g, 0, none⟩)] := hbx.below hW hbx.lt
  have h := ends_in k l bx g n c A b ps B0 W.heap.size HP (fun pre V => ∃ pre' : List (EndT b ps), pre'.map (·.1) = pre ∧ J pre' V) (fun pre V => ∃ pre' : List (EndT b ps), Jx pre' V)
    (fun s A' C row ⟨s', e, hs⟩ hg hr => ⟨s', e, hJ s' A' C row hs hg hr⟩) ?_ W (hbxW.cell 0) (hw.below (hW.mono hB0)) ⟨[], rfl, h0⟩
  · refine h.mono ?_
    rintro e W' ⟨hv, ⟨xs, rfl, xs', e, hx⟩ | ⟨pre, _, pre', hx⟩⟩
    · exact ⟨hv, .inl ⟨xs', e, hx⟩⟩
    · exact ⟨hv, .inr ⟨pre', trivial, hx⟩⟩
  · rintro pre x V ⟨pre', rfl, hp⟩ hx hlen
    obtain ⟨fn, tmps, assign, body, hy, hR⟩ := hY pre' ⟨x, hx⟩ V hp (by rw [List.length_map] at hlen; exact hlen)
    refine ⟨fn, tmps, assign, body, hy, hR.mono ?_⟩
    rintro e W' (⟨rfl, h1, h2⟩ | ⟨rfl, h1⟩)
    · exact .inl ⟨rfl, ⟨pre' ++ [⟨x, hx⟩], by rw [List.map_append]; rfl, h1⟩, h2⟩
    · exact .inr ⟨rfl, _, h1⟩

set_option maxRecDepth 100000 in
/-- The range over all ends of a pier: the loop's variable lies in a block of its own. -/
theorem ends_range {gop : Operand} {pt : Tmp} {assign body : Code} {Q : Exit → Act → World → Prop} {a : Act} {w : World} (bx g n c B0 : Nat) (A : Option Addr) (b : Int) (ps : List (Int × Int))
    (hg : a.eval gop = .func (.func 113) #[] #[.pointer (some ⟨bx, 0, none⟩)]) (HP : Hid (Pier b ps)) (hbx : Bk w bx 79 #[.pointer (some ⟨g, 0, none⟩)]) (hw : Wk w B0 g A n c b ps) (hB0 : B0 ≤ w.heap.size)
    (I : List (EndT b ps) → World → Prop) (Ix : Code → List (EndT b ps) → World → Prop) (hI : OwnFrom w.heap.size I) (hIx : ∀ c, OwnFrom w.heap.size (Ix c)) (h0 : I [] w) (fa : Nat → T3 → Act)
    (hassign : ∀ (l : Nat) (x : T3) (W : World) (be : Nat) (K : Act → World → Prop), W.heap.size = be → K (fa be x) (W.alloc (.cells (endC x) 107)) →
      assign.wpIn (Fence.wide.inRound l) 3 Try.prog (Exit.then K (fun _ _ _ => False)) { tmps := a.tmps.setIfInBounds pt (.agg (endC x)), defers := [] } W)
    (hbody : ∀ (l : Nat) (pre : List (EndT b ps)) (x : T3) (hx : EndIn b ps x) (be : Nat) (W : World), I pre W → w.heap.size ≤ be → Bk W be 107 (endC x) → w.heap.size ≤ W.heap.size → pre.length < (endsL b ps).length →
      body.wpIn (Fence.wide.inRound l) 3 Try.prog (ownPostG w.heap.size (Ke B0 bx) I Ix (pre ++ [⟨x, hx⟩]) W) (fa be x) W)
    (hdone : ∀ (D : Nat) (xs : List (EndT b ps)) (W : World), w.heap.size ≤ D → xs.map (·.1) = endsL b ps → I xs W → W.heap[D]? = some (.deferred (some [])) → Q .normal { a with defers := { target := .collected D, args := #[] } :: a.defers } W)
    (hstop : ∀ (D : Nat) (c : Code) (pre : List (EndT b ps)) (W : World), w.heap.size ≤ D → Ix c pre W → W.heap[D]? = some (.deferred (some [])) → c.wp Try.prog Q { a with defers := { target := .collected D, args := #[] } :: a.defers } W) :
    (Code.rangeFunc gop #[pt] assign body).wp Try.prog Q a w := by
  have hbl := hbx.lt
  refine (wpIn_wide (n := 5)).1 ?_
  refine wpIn_rangeFunc_ownH rfl (by decide) (gf := 113) (lb := #[.pointer (some ⟨bx, 0, none⟩)]) hg trivial (enters_of Try.func113 (by kernel_rfl) rfl)
    (ends_seq (5 - 1) bx g n c B0 A b ps w HP hbx hw hB0) (fun h k => h.trans k) (fun W' l o o' hl ho hc _ => Ke.putObj o' (Nat.le_trans hB0 hl) (by omega) ho)
    (Below.refl _ _) (fun _ => rfl) (fun pre W => I pre W ∧ w.heap.size ≤ W.heap.size) Ix (fun s A' C row hs hg' hr => ⟨hI s A' C row hs.1 hg' hr, Nat.le_trans hs.2 hg'.size⟩) hIx ⟨h0, Nat.le_refl _⟩
    (fun x a' W => ∃ be, a' = fa be x.1 ∧ w.heap.size ≤ be ∧ Bk W be 107 (endC x.1)) ?_ ?_ ?_ ?_ ?_
  · rintro x a' s A' C row ⟨be, h1, h2, h3⟩ hg' hr
    exact ⟨be, h1, h2, Bk.from_ (β := Unit) w.heap.size _ _ _ () A' C row h3 hg' hr⟩
  · rintro l pre ⟨x, hx⟩ W K ⟨hi, hs⟩ hK
    have e : (#[pt].zip (encE x)).foldl (fun t (p : Tmp × Value) => match p with | (p, v) => t.setIfInBounds p v) a.tmps = a.tmps.setIfInBounds pt (.agg (endC x)) := by simp [encE, endC]
    rw [e]
    refine hassign l x W _ K rfl (hK _ _ ?_ ?_ ⟨hI.alloc _ hi, by rw [World.size_alloc]; omega⟩ ⟨_, rfl, hs, Bk.new W _ _⟩)
    · exact (((Chg.refl (fun _ => False) W).alloc _).keeps _ (fun _ h => h.elim))
    · exact ⟨(Below.refl _ W).alloc (by omega) _, Below.heap_alloc W _ bx (by omega)⟩
  · rintro l pre ⟨x, hx⟩ a' W hl hrec ⟨hi, hs⟩ ⟨be, rfl, h2, h3⟩ hlen
    refine wpIn_mono (hbody l pre x hx be W hi h2 h3 hs hlen) ?_
    intro e a2 W2 hp
    cases e with
    | normal => exact ⟨hp.1, hp.2.1, hp.2.2, Nat.le_trans hs hp.1.size⟩
    | ret => exact hp
    | exit id => exact hp
    | goto t => exact hp
    | panic ch => exact hp
    | outgrown => exact hp
  · exact fun D xs W h1 h2 h3 h4 => hdone D xs W h1 h2 h3.1 h4
  · exact fun D c' pre W h1 _ h3 h4 => wpIn_wide.2 (hstop D c' pre W h1 h3 h4)
end Go.Proofs.Ytaekjnjignlmoaa
