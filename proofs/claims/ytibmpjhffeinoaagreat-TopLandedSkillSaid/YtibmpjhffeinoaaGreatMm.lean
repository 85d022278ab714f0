/-
  The executor that is told of calls whose result is known, and of functions that return true.
-/
import Derived.Test.YtibmpjhffeinoaaGreatTX
import Derived.Test.YtibmpjhffeinoaaGreatA6
namespace Go.Proofs.YtibmpjhffeinoaaGreat.Kx
open Go Go.RowKit

noncomputable section
def memoB (X : Exe) (n : Nat) (e : ME) : Bool := match run X n (.call (.func e.f) e.args e.h) with
  | some (.val v hh) => ite_ (eqV e.v v) (ite_ (flatR e.v) (subT leO e.h.t hh.t) false) false
  | _ => false
theorem memoB_ok [Val] [Bet] {X : Exe} {P : Program} {n : Nat} {e : ME} (HS : Sound P (run X n)) (h : memoB X n e = true) : MemoOK P e := by
  unfold memoB at h
  split at h
  · rename_i v hh hq
    obtain ⟨h1, h2⟩ := ite_and h
    obtain ⟨h3, h4⟩ := ite_and h2
    have hok := HS _ _ hq
    rw [← eqV_true h1] at hok
    exact ⟨h3, hh, hok, h4⟩
  · cases h
def primYM (l : List Nat) (ms : List ME) (f : FuncId) (args : List AV) (h : AH) : Option (AV × AH) := match primMemo ms f args h with
  | some r => some r
  | none => primOf l f args h
def exeY (l : List Nat) (ms : List ME) : Exe := ⟨env, fns, primYM l ms⟩
theorem exeY_sound [Val] [Bet] {l : List Nat} {ms : List ME} (hl : ∀ f ∈ l, YesFn Tryz.prog f) (hm : ∀ e ∈ ms, MemoOK Tryz.prog e) (n : Nat) : Sound (exeY l ms).E.P (run (exeY l ms) n) := by
  refine run_sound (X := exeY l ms) tabOK keysOK (fun f fi h => fnsOK f fi h) (fun f args h v h' he => ?_) (drawK_sound tabOK keysOK exe0_mixed) n
  have he' : primYM l ms f args h = some (v, h') := he
  unfold primYM at he'
  split at he'
  · rename_i q hq
    cases he'
    exact primMemo_ok hm hq
  · exact primOf_ok hl f args h v h' he'
/-- A call of it is run by the kernel. -/
theorem callsIn_yes [Val] [Bet] {l : List Nat} {ms : List ME} {n f : Nat} (hl : ∀ f ∈ l, YesFn Tryz.prog f) (hm : ∀ e ∈ ms, MemoOK Tryz.prog e) {args : List AV} {us : List Value} (he : isVal (run (exeY l ms) n (.call (.func f) args noH)) isTrue = true) (hx : VRs phi0 args us) (w : World) (m : Nat) :
    CallsIn (Fro none) m Tryz.prog f us.toArray w (Yes w) := by
  cases hq : run (exeY l ms) n (.call (.func f) args noH) with
  | none => rw [hq] at he; cases he
  | some r =>
    cases r with
    | code => rw [hq] at he; cases he
    | val v h1 =>
      rw [hq] at he
      cases v <;> try (cases he; done)
      rename_i b
      cases b with
      | false => cases he
      | true => exact callsIn_run (exeY_sound hl hm n) hq hx w m
theorem yes_closed {l : List Nat} {f : Nat} {fn : Func} {c : Code} (hl : ∀ f ∈ l, YesFn Tryz.prog f) (h1 : Tryz.prog.funcs[f]? = some fn) (h2 : fn.body = some c) (h3 : (fn.name == "runtime.NumGoroutine") = false) (he : isVal (run (exeY l []) 1000 (.call (.func f) [] noH)) isTrue = true) : YesFn Tryz.prog f := by
  refine ⟨⟨fn, c, h1, h2, h3⟩, fun m w => ?_⟩
  letI : Val := val0
  letI : Bet := bet0
  exact callsIn_yes hl (fun e he => by cases he) (us := []) he .nil w m
end
end Go.Proofs.YtibmpjhffeinoaaGreat.Kx
