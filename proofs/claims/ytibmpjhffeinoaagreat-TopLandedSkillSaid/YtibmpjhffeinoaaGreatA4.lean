/-
  An executor, fourteenth part: regions, code, calls: the executor itself.
  An executor, fifteenth part: what is asked of calls and of code; operations that call.
  An executor, sixteenth part: a region in the text's order.
  An executor, seventeenth part: code.
  An executor, eighteenth part: loops over functions, rounds, functions' ends.
  An executor, nineteenth part: loops over functions, rounds, functions.
  An executor, twentieth part: rounds, functions, a step.
-/
import Derived.Test.YtibmpjhffeinoaaGreatA3
import Derived.Scope
import Derived.Laws.Sem
namespace Go.Proofs.YtibmpjhffeinoaaGreat.Kx
open Go
variable [Val] [Bet]

noncomputable section

/-- Code of which some parts are known by what they do. -/
inductive XC where
  | plain (c : Code)
  | seq (a b : XC)
  | cond (c : Operand) (a b : XC)
  | block (id : Nat) (a : XC)
  | loop (a : XC)
  | scope (a : XC)
  | cut (l : Code) (g : Option Nat → List Nat → AF → AH → Option (AF × AH))
def XC.real : XC → Code
  | .plain c => c
  | .seq a b => .seq a.real b.real
  | .cond o a b => .cond o a.real b.real
  | .block id a => .block id a.real
  | .loop a => .loop a.real
  | .scope a => .scope a.real
  | .cut l _ => l
structure FI where
  code : XC
  nt : Nat
  results : List ResultVar
/-- What the executor is given: types, functions, and functions that are known by what they do. -/
structure Exe where
  E : Env
  fns : Tr FI
  prim : FuncId → List AV → AH → Option (AV × AH)

inductive AEx where
  | normal
  | exit (id : Nat)
  | ret
inductive Task where
  /-- Code of an activation (or of a round of the loop rd); ds: the blocks of its marks. -/
  | code (rd : Option Nat) (ds : List Nat) (c : Code) (fr : AF) (h : AH)
  | xcode (rd : Option Nat) (ds : List Nat) (c : XC) (fr : AF) (h : AH)
  | call (f : AFn) (args : List AV) (h : AH)
inductive Res where
  | code (e : AEx) (ds : List Nat) (fr : AF) (h : AH)
  | val (v : AV) (h : AH)

section
variable {β : Type}
/-- A call of a function's value. -/
def callK (ih : Task → Option Res) (fr : AF) (f : Operand) (xs : List Operand) (h : AH) (k : AV → AH → Option β) : Option β := evalK none fr f fun fv => match fv with
  | .fn g first cap => evalsK none fr xs fun args => appK args cap fun l => appK first l fun l => match ih (.call g l h) with
    | some (.val v h') => k v h'
    | _ => none
  | _ => none
def opRunK (X : Exe) (ih : Task → Option Res) (op : Op) (fr : AF) (h : AH) (k : AV → AH → Option β) : Option β := match op with
  | .call ⟨.value f, xs, _⟩ => callK ih fr f xs.toList h k
  | op => opK none X.E op fr h k
def nthO (os : List Oper) (n : Nat) : Option Oper := List.rec (motive := fun _ => Nat → Option Oper) (fun _ => none) (fun o _ ih n => Nat.rec (motive := fun _ => Option Oper) (some o) (fun m _ => ih m) n) os n
/-- Whether an operation is wanted. -/
def wantK (os : List Oper) (fr : AF) (g : Option (Nat × Bool)) (yes no : Option β) : Option β := match g with
  | none => yes
  | some (j, b) => match nthO os j with
    | some o => match o.dst with
      | some t => getK none fr.t t fun x => match x with
        | .bool c => boolK c fun c => ite_ (Bool.rec (notB c) c b) yes no
        | .tup [] => no
        | _ => none
      | none => none
    | none => none
/-- A region in the text's order. -/
def seqOps (X : Exe) (ih : Task → Option Res) (os : List Oper) (rest : List Oper) : AF → AH → (AF → AH → Option β) → Option β :=
  List.rec (motive := fun _ => AF → AH → (AF → AH → Option β) → Option β) (fun fr h k => k fr h) (fun o _ rec fr h k =>
    wantK os fr o.guard (opRunK X ih o.op fr h fun v h' => putK none fr o.dst v fun fr' => rec fr' h' k) (putK none fr o.dst (.tup []) fun fr' => rec fr' h k)) rest

/-! ### Regions that draw their order -/
def bitB (m i : Nat) : Bool := Nat.beq (Nat.mod (Nat.div m (Nat.pow 2 i)) 2) 1
def nthN (l : List Nat) (n : Nat) : Nat := List.rec (motive := fun _ => Nat → Nat) (fun _ => 0) (fun x _ ih n => Nat.rec (motive := fun _ => Nat) x (fun m _ => ih m) n) l n
/-- Of an operation: which must come before it, in numbers. -/
def maskOf (masks : List Nat) (es : List Edge) : Nat := List.rec 0 (fun e _ ih => ite_ (Region.binds .any e) (Nat.lor (Nat.lor (Nat.pow 2 e.on) (nthN masks e.on)) ih) ih) es
def snocN (l : List Nat) (x : Nat) (k : List Nat → β) : β := List.rec (motive := fun _ => (List Nat → β) → β) (fun k => k [x]) (fun y _ ih k => ih fun ys => k (y :: ys)) l k
def masksK (os : List Oper) : List Nat → (List Nat → β) → β := List.rec (motive := fun _ => List Nat → (List Nat → β) → β) (fun ms k => k ms) (fun o _ ih ms k => natK (maskOf ms o.after.toList) fun m => snocN ms m fun ms => ih ms k) os
def dstB (o : Oper) (t : Nat) : Bool := match o.dst with
  | some s => Nat.beq s t
  | none => false
def edgesB (i : Nat) (es : List Edge) : Bool := List.rec true (fun e _ ih => ite_ (Region.binds .any e) (ite_ (Nat.blt e.on i) ih false) ih) es
/-- Who writes t: before, or after. -/
def orB (a b : Bool) : Bool := Bool.rec b true a
def writersB (t i m : Nat) (os : List Oper) : Nat → List Nat → Bool := List.rec (motive := fun _ => Nat → List Nat → Bool) (fun _ _ => true) (fun o _ ih j ms => List.rec (motive := fun _ => Bool) false (fun mj ms' _ =>
  ite_ (dstB o t) (ite_ (orB (bitB m j) (orB (bitB mj i) (Nat.beq i j))) (ih (Nat.succ j) ms') false) (ih (Nat.succ j) ms')) ms) os
def readsB (i m : Nat) (os : List Oper) (ms : List Nat) (ts : List Nat) : Bool := List.rec true (fun t _ ih => ite_ (writersB t i m os 0 ms) ih false) ts
def noneB (t : Nat) (rest : List Oper) : Bool := List.rec true (fun o _ ih => ite_ (dstB o t) false ih) rest
def operB (os : List Oper) (ms : List Nat) (o : Oper) (rest : List Oper) (i m : Nat) : Bool := ite_ (edgesB i o.after.toList) (ite_ (readsB i m os ms (tmpsOf o.op))
  (ite_ (match o.guard with
    | none => true
    | some (j, _) => bitB m j) (match o.dst with
    | none => true
    | some t => noneB t rest) false) false) false
def staticB (os : List Oper) (ms0 : List Nat) (rest : List Oper) : Nat → List Nat → Bool := List.rec (motive := fun _ => Nat → List Nat → Bool) (fun _ _ => true) (fun o rest ih i ms => List.rec (motive := fun _ => Bool) false (fun m ms' _ => ite_ (operB os ms0 o rest i m) (ih (Nat.succ i) ms') false) ms) rest
def eqFs (xs : List AV) : List AV → Bool := List.rec (motive := fun _ => List AV → Bool) (fun ys => List.rec true (fun _ _ _ => false) ys) (fun x _ ih ys => List.rec (motive := fun _ => Bool) false (fun y ys _ => ite_ (eqF x y) (ih ys) false) ys) xs
def eqV (x y : AV) : Bool := match x, y with
  | .agg xs, .agg ys => eqFs xs ys
  | .tup xs, .tup ys => eqFs xs ys
  | .fn (.func f) a b, .fn (.func g) c d => ite_ (Nat.beq f g) (ite_ (eqFs a c) (eqFs b d) false) false
  | x, y => eqF x y
def pairK (x : AV) (h : AH) : Option (AV × AH) := some (x, h)
def thenP (r : Option (AV × AH)) (k : AV → AH → Option β) : Option β := match r with
  | some (v, h) => k v h
  | none => none
def thenA (r : Option (AO × AV)) (k : AO → AV → Option β) : Option β := match r with
  | some (ao, v) => k ao v
  | none => none
def pairA (ao : AO) (v : AV) : Option (AO × AV) := some (ao, v)
/-- A read once more: the same value. -/
def sameRead (E : Env) (op : Op) (fr : AF) (v : AV) (h : AH) (k : Option β) : Option β := thenP (opK none E op fr h pairK) fun v' _ => ite_ (eqV v v') k none
structure DS where
  pend : List (Nat × Nat × AO)
  rds : List (Nat × Op × AF × AV)
  hist : List (Nat × AH)
/-- The blocks of which an operation may know are laid into the heap; the others stay pending. -/
def layK (p : Nat → Bool) (pend : List (Nat × Nat × AO)) : AH → (AH → List (Nat × Nat × AO) → Option β) → Option β :=
  List.rec (motive := fun _ => AH → (AH → List (Nat × Nat × AO) → Option β) → Option β) (fun h k => k h []) (fun q _ ih h k => ite_ (p q.1) (setHK none h q.2.1 q.2.2 fun h => ih h k) (ih h fun h l => k h (q :: l))) pend
def againK (E : Env) (m : Nat) (h : AH) (rds : List (Nat × Op × AF × AV)) (k : Option β) : Option β := List.rec k (fun p _ ih => ite_ (bitB m p.1) ih (sameRead E p.2.1 p.2.2.1 p.2.2.2 h ih)) rds
def backK (E : Env) (m : Nat) (op : Op) (fr : AF) (v : AV) (hist : List (Nat × AH)) (k : Option β) : Option β := List.rec k (fun p _ ih => ite_ (bitB m p.1) k (sameRead E op fr v p.2 ih)) hist
/-- The new block's content, and the value that names it. -/
def contK (E : Env) (op : Op) (fr : AF) (id : Nat) (k : AO → AV → Option β) : Option β := match op with
  | .alloc t => tabK none E t fun ti => k (.cells ti.zero) (.ptr (some (id, 0)))
  | .box _ x => evalK none fr x fun x => thenP (boxK none x ⟨id, .e⟩ pairK) fun v h => getK none h.t id fun ao => k ao v
  | .buildSlice t n ps => partsK none fr ps.toList fun ps => thenP (buildSliceK none E t n ps ⟨id, .e⟩ pairK) fun v h => getK none h.t id fun ao => k ao v
  | .makeMap t none => thenP (makeMapK none E t ⟨id, .e⟩ pairK) fun v h => getK none h.t id fun ao => k ao v
  | .makeSlice t x y => evalK none fr x fun x => evalK none fr y fun y => thenP (makeSliceK none E t x y ⟨id, .e⟩ pairK) fun v h => getK none h.t id fun ao => k ao v
  | _ => none
def lastEffB (m : Nat) (hist : List (Nat × AH)) : Bool := List.rec true (fun p _ _ => bitB m p.1) hist
def drawStep (X : Exe) (ih : Task → Option Res) (o : Oper) (i id : Nat) (m : Nat) (fr : AF) (h : AH) (s : DS) (k : AV → AH → DS → Option β) : Option β := match clsOf o.op with
  | .pure => thenP (opK none X.E o.op fr h pairK) fun v _ => k v h s
  | .read => thenP (opK none X.E o.op fr h pairK) fun v _ => backK X.E m o.op fr v s.hist (k v h ⟨s.pend, (i, o.op, fr, v) :: s.rds, s.hist⟩)
  | .made => thenA (contK X.E o.op fr id pairA) fun ao v => ite_ ao.isF none (k v h ⟨(i, id, ao) :: s.pend, s.rds, s.hist⟩)
  | .eff => ite_ (lastEffB m s.hist) (layK (bitB m) s.pend h fun h0 pend => thenP (opRunK X ih o.op fr h0 pairK) fun v h1 => againK X.E m h1 s.rds (k v h1 ⟨pend, s.rds, (i, h) :: s.hist⟩)) none
def drawOps (X : Exe) (ih : Task → Option Res) (os : List Oper) (base : Nat) (rest : List Oper) : (i : Nat) → List Nat → AF → AH → DS → (AF → AH → Option β) → Option β :=
  List.rec (motive := fun _ => Nat → List Nat → AF → AH → DS → (AF → AH → Option β) → Option β) (fun _ _ fr h s k => layK (fun _ => true) s.pend h fun h _ => k fr h) (fun o _ rec i ms fr h s k => List.rec (motive := fun _ => Option β) none (fun m ms' _ =>
    natK (Nat.succ i) fun i' => natK (Nat.add base i) fun id =>
    wantK os fr o.guard (drawStep X ih o i id m fr h s fun v h' s' => putK none fr o.dst v fun fr' => rec i' ms' fr' h' s' k)
      (putK none fr o.dst (.tup []) fun fr' => rec i' ms' fr' h s k)) ms) rest
def lenO (os : List Oper) : Nat := List.rec 0 (fun _ _ ih => Nat.succ ih) os
/-- What is known ahead of the run: closed, so that it is reckoned once. -/
def statC (os : List Oper) : Option (List Nat × Nat) := masksK os [] fun ms => ite_ (staticB os ms os 0 ms) (natK (lenO os) fun n => some (ms, n)) none
def drawK (X : Exe) (ih : Task → Option Res) (os : List Oper) (fr : AF) (h : AH) (k : AF → AH → Option β) : Option β :=
  match statC os with
  | some (ms, n) => natK (Nat.add h.nx n) fun nx => drawOps X ih os h.nx os 0 ms fr ⟨nx, h.t⟩ ⟨[], [], []⟩ k
  | none => none

/-! ### Loops over functions -/
def loopK (h : AH) (i : Nat) (k : LoopState → Option Code → AF → List Nat → Code → Code → Nat → Option β) : Option β := getK none h.t i fun ao => match ao with
  | .loop st pend fr ps as bd df => k st pend fr ps as bd df
  | _ => none
def putsK (ps : List Nat) : AF → List AV → (AF → Option β) → Option β := List.rec (motive := fun _ => AF → List AV → (AF → Option β) → Option β) (fun fr xs k => match xs with
  | [] => k fr
  | _ => none) (fun p _ ih fr xs k => match xs with
  | x :: xs => putK none fr (some p) x fun fr => ih fr xs k
  | [] => none) ps
end
def endK (ih : Task → Option Res) (rd : Option Nat) (ds : List Nat) (fr : AF) (h : AH) (i : Nat) (st : LoopState) (pend : Option Code) (lf : AF) (ps : List Nat) (as bd : Code) (df : Nat) : Option Res := match st with
  | .busy => none
  | _ => setHK none h i (.loop .exhausted pend lf ps as bd df) fun h3 => match pend with
    | none => some (.code .normal ds fr h3)
    | some c => ih (.code rd ds c fr h3)
def goK (ih : Task → Option Res) (rd : Option Nat) (ds : List Nat) (gf : AFn) (first cap : List AV) (ps : List Nat) (as bd : Code) (fr : AF) (q : Nat) (h : AH) : Option Res := newHK none h (.loop .ready none fr ps as bd q) fun h1 => appK first (.fn (.yield h.nx) [] [] :: cap) fun args => match ih (.call gf args h1) with
  | some (.val _ h2) => loopK h2 h.nx (endK ih rd ds fr h2 h.nx)
  | _ => none
def rangeK (ih : Task → Option Res) (rd : Option Nat) (ds : List Nat) (g : Operand) (ps : List Nat) (as bd : Code) (fr : AF) (h : AH) : Option Res :=
  evalK none fr g fun gv => match gv with
  | .fn (.func gf) first cap => match rd with
    | none => newHK none h .deferred fun h1 => goK ih rd (h.nx :: ds) (.func gf) first cap ps as bd fr h.nx h1
    | some l0 => loopK h l0 fun _ _ _ _ _ _ df => goK ih rd ds (.func gf) first cap ps as bd fr df h
  | _ => none
def doneK (i : Nat) (e : AEx) (h : AH) (_ : LoopState) (_ : Option Code) (lf : AF) (ps : List Nat) (as bd : Code) (df : Nat) : Option Res := match e with
  | .normal => setHK none h i (.loop .ready none lf ps as bd df) fun h4 => some (.val (.bool true) h4)
  | .ret => setHK none h i (.loop .done (some .ret) lf ps as bd df) fun h4 => some (.val (.bool false) h4)
  | .exit id => setHK none h i (.loop .done (some (.exit id)) lf ps as bd df) fun h4 => some (.val (.bool false) h4)
def roundK (ih : Task → Option Res) (i : Nat) (bd : Code) (fr : AF) (h : AH) (st : LoopState) (pend : Option Code) (lf : AF) (ps : List Nat) (as bd' : Code) (df : Nat) : Option Res := match st with
  | .ready => setHK none h i (.loop .busy pend lf ps as bd' df) fun h2 => match ih (.code (some i) [] bd fr h2) with
    | some (.code e [] _ h3) => loopK h3 i (doneK i e h3)
    | _ => none
  | _ => none
def yieldK (ih : Task → Option Res) (i : Nat) (args : List AV) (h : AH) : Option Res :=
  loopK h i fun _ _ fr ps as bd _ => putsK ps fr args fun fr1 => match ih (.code (some i) [] as fr1 h) with
    | some (.code .normal [] fr2 h1) => loopK h1 i (roundK ih i bd fr2 h1)
    | _ => none
/-- The arguments' slots. -/
def argsK {β : Type} (_nt : Nat) (xs : List AV) : Nat → AF → (AF → Option β) → Option β := List.rec (motive := fun _ => Nat → AF → (AF → Option β) → Option β) (fun _ fr k => k fr) (fun x _ ih n fr k => putK none fr (some n) x fun fr => natK (Nat.succ n) fun n => ih n fr k) xs
def resultsK {β : Type} (E : Env) (rs : List ResultVar) (fr : AF) (h : AH) : (List AV → Option β) → Option β := List.rec (motive := fun _ => (List AV → Option β) → Option β) (fun k => k []) (fun r _ ih k => match r with
  | .tmp t => getK none fr.t t fun x => ih fun xs => k (x :: xs)
  | .cell a t => getK none fr.t a fun p => loadOpK none E t p h fun x _ => ih fun xs => k (x :: xs)) rs
def tupK {β : Type} (xs : List AV) (k : AV → Option β) : Option β := match xs with
  | [x] => k x
  | xs => k (.tup xs)
/-- The marks' blocks are shut. -/
def shutK {β : Type} (ds : List Nat) : AH → (AH → Option β) → Option β := List.rec (motive := fun _ => AH → (AH → Option β) → Option β) (fun h k => k h) (fun d _ ih h k => getK none h.t d fun ao => match ao with
  | .deferred => setHK none h d .dead fun h => ih h k
  | _ => none) ds
def funcK (X : Exe) (ih : Task → Option Res) (f : FuncId) (args : List AV) (h : AH) : Option Res := match X.prim f args h with
  | some (v, h') => some (.val v h')
  | none => getK none X.fns f fun fi => argsK fi.nt args 0 ⟨fi.nt, .e⟩ fun fr => match ih (.xcode none [] fi.code fr h) with
    | some (.code e ds fr' h') => match e with
      | .exit _ => none
      | _ => shutK ds h' fun h'' => resultsK X.E fi.results fr' h'' fun xs => tupK xs fun v => some (.val v h'')
    | _ => none
def stepK (X : Exe) (ih : Task → Option Res) (t : Task) : Option Res := match t with
  | .call (.func f) args h => funcK X ih f args h
  | .call (.yield i) args h => yieldK ih i args h
  | .xcode rd ds c fr h => match c with
    | .plain c => ih (.code rd ds c fr h)
    | .seq a b => match ih (.xcode rd ds a fr h) with
      | some (.code .normal ds fr h) => ih (.xcode rd ds b fr h)
      | r => r
    | .cond c a b => evalK none fr c fun c => match c with
      | .bool b' => ite_ b' (ih (.xcode rd ds a fr h)) (ih (.xcode rd ds b fr h))
      | _ => none
    | .block id b => match ih (.xcode rd ds b fr h) with
      | some (.code (.exit j) ds fr h) => ite_ (Nat.beq j id) (some (.code .normal ds fr h)) (some (.code (.exit j) ds fr h))
      | r => r
    | .loop b => match ih (.xcode rd ds b fr h) with
      | some (.code .normal ds fr h) => ih (.xcode rd ds (.loop b) fr h)
      | r => r
    | .scope b => ih (.xcode rd ds b fr h)
    | .cut _ g => match g rd ds fr h with
      | some (fr', h') => some (.code .normal ds fr' h')
      | none => none
  | .code rd ds c fr h => match c with
    | .skip => some (.code .normal ds fr h)
    | .label _ => some (.code .normal ds fr h)
    | .exit id => some (.code (.exit id) ds fr h)
    | .ret => some (.code .ret ds fr h)
    | .region _ ops draw => match draw with
      | false => seqOps X ih ops.toList ops.toList fr h fun fr h => some (.code .normal ds fr h)
      | true => drawK X ih ops.toList fr h fun fr h => some (.code .normal ds fr h)
    | .seq a b => match ih (.code rd ds a fr h) with
      | some (.code .normal ds fr h) => ih (.code rd ds b fr h)
      | r => r
    | .cond c a b => evalK none fr c fun c => match c with
      | .bool b' => ite_ b' (ih (.code rd ds a fr h)) (ih (.code rd ds b fr h))
      | _ => none
    | .block id b => match ih (.code rd ds b fr h) with
      | some (.code (.exit j) ds fr h) => ite_ (Nat.beq j id) (some (.code .normal ds fr h)) (some (.code (.exit j) ds fr h))
      | r => r
    | .loop b => match ih (.code rd ds b fr h) with
      | some (.code .normal ds fr h) => ih (.code rd ds (.loop b) fr h)
      | r => r
    | .scope b => ih (.code rd ds b fr h)
    | .rangeFunc g ps as bd => rangeK ih rd ds g ps.toList as bd fr h
    | _ => none
/-- The executor: so many steps deep. -/
def run (X : Exe) (n : Nat) : Task → Option Res := Nat.rec (fun _ => none) (fun _ ih t => stepK X ih t) n
end
end Go.Proofs.YtibmpjhffeinoaaGreat.Kx

namespace Go.Proofs.YtibmpjhffeinoaaGreat.Kx
open Go
variable [Val] [Bet]

noncomputable section
variable {X : Exe} {P : Program} {φ : Phi} {h : AH} {w : World} {fr : AF} {a : Act} {β : Type} {r : β}

def Fro (ro : Option Nat) : Fence := { Fence.wide with round := ro }
def AEx.exit' : AEx → Exit
  | .normal => .normal
  | .exit id => .exit id
  | .ret => .ret
def Mk (φ : Phi) : List Nat → List Deferred → Prop
  | [], [] => True
  | d :: ds, e :: es => (∃ g z, φ d = some (g, z) ∧ e = { target := .collected g, args := #[] }) ∧ Mk φ ds es
  | _, _ => False
omit [Val] [Bet] in
theorem Mk.ext {φ φ' : Phi} (he : Ext φ φ') : ∀ {ds : List Nat} {es : List Deferred}, Mk φ ds es → Mk φ' ds es
  | [], [], _ => trivial
  | _ :: _, _ :: _, h => ⟨let ⟨g, z, h1, h2⟩ := h.1; ⟨g, z, he _ _ h1, h2⟩, Mk.ext he h.2⟩
  | [], _ :: _, h => h.elim
  | _ :: _, [], h => h.elim
def RO (φ : Phi) : Option Nat → Option Nat → Prop
  | none, none => True
  | some i, some l => ∃ d, φ i = some (l, d)
  | _, _ => False
omit [Val] [Bet] in
theorem RO.ext {φ φ' : Phi} (he : Ext φ φ') : ∀ {x y : Option Nat}, RO φ x y → RO φ' x y
  | none, none, _ => trivial
  | some _, some _, ⟨d, h⟩ => ⟨d, he _ _ h⟩
  | none, some _, h => h.elim
  | some _, none, h => h.elim
/-- Code, walked; a loop: from its body on. -/
def wpX (F : Fence) (n : Nat) (P : Program) (c : Code) (Q : Exit → Act → World → Prop) (a : Act) (w : World) : Prop := match c with
  | .loop c => ∀ (b : Frame) (k : List Item) (cs : List Frame), b.roundOf = F.round → F.fn b.fn → F.room (cs.length + 1 + n) →
    ∃ e a' w', Q e a' w' ∧ ArrivesIn (Machine.fenced P F) P (lone (b.atR a (.code c :: .inLoop c :: k)) cs w) b k cs e a' w'
  | c => c.wpIn F n P Q a w
omit [Val] [Bet] in
theorem wpX_in {F : Fence} {n : Nat} {c : Code} {Q : Exit → Act → World → Prop} (h : wpX F n P c Q a w) : c.wpIn F n P Q a w := by
  cases c
  case loop c =>
    intro b k cs hro hb hr
    obtain ⟨e, a', w', hq, harr⟩ := h b k cs hro hb hr
    exact ⟨e, a', w', hq, .of_steps (.one (fenced_calm hb hr rfl) stepR_loop) harr⟩
  all_goals exact h
omit [Val] [Bet] in
/-- A loop's body, then the loop. -/
theorem wpX_loop {F : Fence} {n : Nat} {c : Code} {Q : Exit → Act → World → Prop} (h : c.wpIn F n P (Exit.then (wpX F n P (.loop c) Q) Q) a w) : wpX F n P (.loop c) Q a w := by
  intro b k cs hro hb hr
  obtain ⟨e, a₁, w₁, hq, harr⟩ := h b (.inLoop c :: k) cs hro hb hr
  cases e with
  | normal =>
    obtain ⟨e₂, a₂, w₂, hq₂, harr₂⟩ := hq b k cs hro hb hr
    exact ⟨e₂, a₂, w₂, hq₂, .of_steps (StepsIn.trans harr (.one (fenced_calm hb hr rfl) stepR_inLoop)) harr₂⟩
  | exit id => exact ⟨_, a₁, w₁, hq, .pass (x := .inLoop c) rfl (fun _ _ => .inl (by simp)) harr⟩
  | goto l => exact ⟨_, a₁, w₁, hq, .pass (x := .inLoop c) rfl (fun _ _ => .inl (by simp)) harr⟩
  | ret => exact ⟨_, a₁, w₁, hq, .pass (x := .inLoop c) rfl (fun _ _ => .inl (by simp)) harr⟩
  | panic ch => exact ⟨_, a₁, w₁, hq, .pass (x := .inLoop c) rfl (fun _ _ => .inl (by simp)) harr⟩
  | outgrown => exact ⟨_, a₁, w₁, hq, .pass (x := .inLoop c) rfl (fun _ _ => .inl (by simp)) harr⟩
omit [Val] [Bet] in
theorem stepR_scope {b : Frame} {k : List Item} {cs : List Frame} {c : Code} : step P (lone (b.atR a (.code (.scope c) :: k)) cs w) = .next (lone (b.atR a (.code c :: .inScope c :: k)) cs w) :=
  step_lone_go (by simp [stepG, stepG.exec, Frame.atR])
omit [Val] [Bet] in
theorem stepR_inScope {b : Frame} {k : List Item} {cs : List Frame} {c : Code} : step P (lone (b.atR a (.inScope c :: k)) cs w) = .next (lone (b.atR a k) cs w) :=
  step_lone_go (by simp [stepG, stepG.exec, Frame.atR])
omit [Val] [Bet] in
theorem wpIn_scope {F : Fence} {n : Nat} {c : Code} {Q : Exit → Act → World → Prop} (h : c.wpIn F n P (Exit.noGoto Q) a w) : (Code.scope c).wpIn F n P Q a w := by
  intro b k cs hro hb hr
  have h0 : (lone (b.atR a (.code (.scope c) :: k)) cs w).fenced P F := fenced_calm hb hr rfl
  obtain ⟨e, a₁, w₁, hq, harr⟩ := h b (.inScope c :: k) cs hro hb hr
  cases e with
  | normal => exact ⟨.normal, a₁, w₁, hq, .head h0 stepR_scope (StepsIn.trans harr (.one (fenced_calm hb hr rfl) stepR_inScope))⟩
  | exit id =>
    have hx : exitTo id (.inScope c :: k) = exitTo id k := by simp [exitTo]
    exact ⟨.exit id, a₁, w₁, hq, fun k' hk => .head h0 stepR_scope (harr.1 k' (by rw [hx]; exact hk)),
      fun hr' hk => let ⟨k₁, h1, h2⟩ := harr.2 hr' (by rw [hx]; exact hk); ⟨k₁, h1, .head h0 stepR_scope h2⟩⟩
  | goto l => exact hq.elim
  | ret => exact ⟨_, a₁, w₁, hq, .of_steps (.one h0 stepR_scope) harr⟩
  | panic ch => exact ⟨_, a₁, w₁, hq, .of_steps (.one h0 stepR_scope) harr⟩
  | outgrown => exact ⟨_, a₁, w₁, hq, .of_steps (.one h0 stepR_scope) harr⟩

/-- What is known behind a call. -/
def Back (φ : Phi) (h : AH) (w : World) (v : AV) (h' : AH) (e : Ending) (w' : World) : Prop := ∃ u φ', e = .returned u ∧ VR φ' v u ∧ R φ' h' w' ∧ St φ h w φ' h' w'
def CallOK (P : Program) (f : AFn) (args : List AV) (h : AH) (v : AV) (h' : AH) : Prop := ∀ (φ : Phi) (w : World) (us : List Value), R φ h w → VRs φ args us → match f with
  | .func g => (∀ u w, (callFunc g u).run P w = .ok (.enter g u) w) ∧ ∀ n, CallsIn (Fro none) n P g us.toArray w (Back φ h w v h')
  | .yield i => ∃ l d g tmps as bd, φ i = some (l, d) ∧ (Instr.yield l us.toArray).run P w = .ok (.round l g tmps as bd) w ∧ ∀ n, RoundIn (Fro none) n P l g tmps as bd w (Back φ h w v h')
def CodeOK (P : Program) (rd : Option Nat) (ds : List Nat) (c : Code) (fr : AF) (h : AH) (e : AEx) (ds' : List Nat) (fr' : AF) (h' : AH) : Prop :=
  ∀ (φ : Phi) (w : World) (a : Act) (ro : Option Nat) (n : Nat) (Q : Exit → Act → World → Prop), R φ h w → FR φ fr a.tmps → Mk φ ds a.defers → RO φ rd ro →
    (∀ φ' w' a', R φ' h' w' → St φ h w φ' h' w' → FR φ' fr' a'.tmps → Mk φ' ds' a'.defers → Q e.exit' a' w') → wpX (Fro ro) n P c Q a w
def CutOK (P : Program) (l : Code) (g : Option Nat → List Nat → AF → AH → Option (AF × AH)) : Prop := ∀ (rd : Option Nat) (ds : List Nat) (fr : AF) (h : AH) (fr' : AF) (h' : AH), g rd ds fr h = some (fr', h') → CodeOK P rd ds l fr h .normal ds fr' h'
def XC.OK (P : Program) : XC → Prop
  | .plain _ => True
  | .seq a b => a.OK P ∧ b.OK P
  | .cond _ a b => a.OK P ∧ b.OK P
  | .block _ a => a.OK P
  | .loop a => a.OK P
  | .scope a => a.OK P
  | .cut l g => CutOK P l g
def TaskOK (P : Program) : Task → Res → Prop
  | .xcode rd ds c fr h, .code e ds' fr' h' => c.OK P → CodeOK P rd ds c.real fr h e ds' fr' h'
  | .code rd ds c fr h, .code e ds' fr' h' => CodeOK P rd ds c fr h e ds' fr' h'
  | .call f args h, .val v h' => CallOK P f args h v h'
  | _, _ => True
def Sound (P : Program) (ih : Task → Option Res) : Prop := ∀ t r, ih t = some r → TaskOK P t r

omit [Val] [Bet] in
theorem resolve_value {f : Operand} {xs : Array Operand} {ts : Array TypeId} {ty : TypeId} {fn : Fn} {first cap : Array Value} (hf : a.eval f = .func fn first cap) :
    (resolve a.eval ⟨.value f, xs, ts⟩ ty).run P w = .ok { target := .fn fn cap, args := first ++ xs.map a.eval } w := by
  simp only [resolve, hf]
  rfl
omit [Bet] in
theorem VRs.appK {xs ys : List AV} {us vs : Array Value} (h1 : VRs φ xs us.toList) (h2 : VRs φ ys vs.toList) : VRs φ (xs ++ ys) (us ++ vs).toList := by
  rw [Array.toList_append]; exact h1.append h2
/-- A call of a function's value. -/
theorem callK_some {ih : Task → Option Res} (hih : Sound P ih) (hR : R φ h w) (hF : FR φ fr a.tmps) {f : Operand} {xs : Array Operand} {ts : Array TypeId} {dst : Option Tmp} {ty : TypeId} {pos : String} {after : Array Edge} {guard : Option (Nat × Bool)} {k : AV → AH → Option β}
    (he : callK ih fr f xs.toList h k = some r) : ∃ v h', k v h' = some r ∧
      ∀ ro n Q (next : Act → World → Prop), (∀ φ' u w', VR φ' v u → R φ' h' w' → St φ h w φ' h' w' → next (a.put dst u) w') → Oper.wpIn (Fro ro) n P ⟨dst, .call ⟨.value f, xs, ts⟩, ty, pos, after, guard⟩ a w next Q := by
  obtain ⟨fv, h1, h2⟩ := evalK_some he hF
  cases fv <;> try (cases h1; done)
  rename_i g first cap
  obtain ⟨args, h3, h4⟩ := evalsK_some (k := fun args => appK args cap fun l => appK first l fun l => match ih (.call g l h) with
    | some (.val v h') => k v h'
    | _ => none) xs.toList h1 hF
  rw [appK_eq, appK_eq] at h3
  cases hc : ih (.call g (first ++ (args ++ cap)) h) with
  | none => simp [hc] at h3
  | some res =>
    simp only [hc] at h3
    cases res with
    | code => cases h3
    | val v h' =>
      have hok := hih _ _ hc
      refine ⟨v, h', h3, fun ro n Q next hK => ?_⟩
      have h4' : VRs φ args (xs.map a.eval).toList := by rw [Array.toList_map]; exact h4
      generalize hfv : a.eval f = fvv at h2
      cases h2 with
      | fn g0 _ _ us vs e1 e2 =>
        have hargs : VRs φ (first ++ (args ++ cap)) (us ++ xs.map a.eval ++ vs).toList := by
          rw [← List.append_assoc]
          exact VRs.appK (VRs.appK e1 h4') e2
        obtain ⟨c1, c2⟩ := hok φ w _ hR hargs
        refine ⟨fun _ _ => trivial, ?_⟩
        have hrun : ((Oper.mk dst (.call ⟨.value f, xs, ts⟩) ty pos after guard).semAt (Fro ro).round a.eval).run P w = .ok (.enter g0 (us ++ xs.map a.eval ++ vs)) w := by
          rw [Oper.semAt_eq _ _ _ (by intro c; simp)]
          show ((resolve a.eval ⟨.value f, xs, ts⟩ ty) >>= fun d => invoke d.target d.args).run P w = _
          rw [Sem.run_bind, resolve_value hfv]
          exact c1 _ _
        rw [hrun]
        refine ⟨(fun hd => by cases hd), ?_⟩
        have c3 := c2 (n - 1)
        rw [Array.toArray_toList] at c3
        have c4 : CallsIn (Fro ro) (n - 1) P g0 (us ++ xs.map a.eval ++ vs) w (Back φ h w v h') := c3
        exact c4.mono fun e w' hb => by
          obtain ⟨u, φ', rfl, b1, b2, b3⟩ := hb
          exact hK φ' u w' b1 b2 b3
      | yield i l d hp =>
        have hargs : VRs φ ([] ++ (args ++ [])) (xs.map a.eval).toList := by
          rw [List.nil_append, List.append_nil]; exact h4'
        obtain ⟨l', d', g, tmps, as, bd, c0, c1, c2⟩ := hok φ w _ hR hargs
        rw [hp] at c0
        cases c0
        rw [Array.toArray_toList] at c1
        refine ⟨fun _ _ => trivial, ?_⟩
        have hrun : ((Oper.mk dst (.call ⟨.value f, xs, ts⟩) ty pos after guard).semAt (Fro ro).round a.eval).run P w = .ok (.round l g tmps as bd) w := by
          rw [Oper.semAt_eq _ _ _ (by intro c; simp)]
          show ((resolve a.eval ⟨.value f, xs, ts⟩ ty) >>= fun d => invoke d.target d.args).run P w = _
          rw [Sem.run_bind, resolve_value hfv]
          simpa [Result.andThen, invoke] using c1
        rw [hrun]
        refine ⟨(fun hd => by cases hd), ?_⟩
        have c3 : RoundIn (Fro ro) (n - 1) P l g tmps as bd w (Back φ h w v h') := c2 (n - 1)
        exact c3.mono fun e w' hb => by
          obtain ⟨u, φ', rfl, b1, b2, b3⟩ := hb
          exact hK φ' u w' b1 b2 b3
theorem OpGood.in {o : Oper} {k : AV → AH → Option β} (hnd : ∀ c, o.op ≠ .defer c) (hg : OpGood P o a φ h w k r) : ∃ v h', k v h' = some r ∧
    ∀ ro n Q (next : Act → World → Prop), (∀ φ' u w', VR φ' v u → R φ' h' w' → St φ h w φ' h' w' → next (a.put o.dst u) w') → Oper.wpIn (Fro ro) n P o a w next Q := by
  obtain ⟨φ', h', w', x, v, nx, h1, h2, h3, h4, h5, h6⟩ := hg
  refine ⟨x, h', h1, fun ro n Q next hK => ⟨fun _ _ => trivial, ?_⟩⟩
  rw [Oper.semAt_eq _ _ _ hnd, h2]
  rcases h3 with rfl | ⟨rfl, rfl⟩
  · exact hK φ' v w' h4 h5 h6
  · exact hK φ' undef w' h4 h5 h6
theorem opRunK_some (HT : TabOK X.E) (HK : KeysOK X.E) {ih : Task → Option Res} (hih : Sound X.E.P ih) (hR : R φ h w) (hF : FR φ fr a.tmps) {o : Oper} {k : AV → AH → Option β}
    (he : opRunK X ih o.op fr h k = some r) : ∃ v h', k v h' = some r ∧
      ∀ ro n Q (next : Act → World → Prop), (∀ φ' u w', VR φ' v u → R φ' h' w' → St φ h w φ' h' w' → next (a.put o.dst u) w') → Oper.wpIn (Fro ro) n X.E.P o a w next Q := by
  obtain ⟨dst, op, ty, pos, after, guard⟩ := o
  unfold opRunK at he
  split at he
  · rename_i f xs ts hop
    simp only at hop
    subst hop
    exact callK_some (xs := xs) hih hR hF he
  · refine OpGood.in ?_ (opK_some HT HK hR hF he)
    rintro c rfl
    cases he
end
end Go.Proofs.YtibmpjhffeinoaaGreat.Kx

namespace Go.Proofs.YtibmpjhffeinoaaGreat.Kx
open Go
variable [Val] [Bet]

noncomputable section
variable {X : Exe} {P : Program} {φ : Phi} {h : AH} {w : World} {fr : AF} {a : Act} {β : Type} {r : β}

omit [Val] [Bet] in
theorem nthO_eq (os : List Oper) : ∀ n, nthO os n = os[n]? := by
  induction os with
  | nil => intro n; rfl
  | cons o os ih =>
    intro n
    cases n with
    | zero => rfl
    | succ n => exact ih n
omit [Bet] in
theorem wantK_some {ops : Array Oper} {o : Oper} {yes no : Option β} (hF : FR φ fr a.tmps) (he : wantK ops.toList fr o.guard yes no = some r) :
    (Region.wanted o (yielded ops a.tmps) = true ∧ yes = some r) ∨ (Region.wanted o (yielded ops a.tmps) = false ∧ no = some r) := by
  unfold wantK at he
  unfold Region.wanted
  split at he
  · rename_i hg
    rw [hg]
    exact .inl ⟨rfl, he⟩
  · rename_i j b hg
    rw [hg]
    rw [nthO_eq] at he
    split at he
    · rename_i o' ho'
      split at he
      · rename_i t ht
        obtain ⟨x, h1, h2⟩ := getK_some he
        obtain ⟨v, h3, h4⟩ := hF.2 t x h1
        have hy : ∀ vv, v = vv → yielded ops a.tmps j = (match vv with | .bool b => some b | _ => none) := by
          intro vv hvv
          subst hvv
          unfold yielded
          have ho2 : ops[j]? = some o' := by rw [← ho', Array.getElem?_toList]
          simp only [ho2, Option.bind_some, ht, h3]
          cases v <;> rfl
        replace hy := hy v rfl
        split at h2
        · rename_i c
          cases h4
          rw [boolK_eq] at h2
          simp only [hy]
          cases b <;> cases c
          · exact .inl ⟨rfl, h2⟩
          · exact .inr ⟨rfl, h2⟩
          · exact .inr ⟨rfl, h2⟩
          · exact .inl ⟨rfl, h2⟩
        · cases h4 with
          | tup _ us hu =>
            simp only [hy]
            exact .inr ⟨rfl, h2⟩
        · cases h2
      · cases he
    · cases he
omit [Val] [Bet] in
theorem put_defers (a : Act) (d : Option Tmp) (v : Value) : (a.put d v).defers = a.defers := by cases d <;> rfl
/-- The rest of a region, in the text's order. -/
theorem seqOps_some (HT : TabOK X.E) (HK : KeysOK X.E) {ih : Task → Option Res} (hih : Sound X.E.P ih) (ops : Array Oper) : ∀ (rest : List Oper) (i : Nat) (φ : Phi) (w : World) (fr : AF) (h : AH) (a : Act) (k : AF → AH → Option β) (ro : Option Nat) (n : Nat) (Q : Exit → Act → World → Prop),
    ops.toList.drop i = rest → seqOps X ih ops.toList rest fr h k = some r → R φ h w → FR φ fr a.tmps →
    (∀ fr' h' φ' w' a', k fr' h' = some r → R φ' h' w' → St φ h w φ' h' w' → FR φ' fr' a'.tmps → a'.defers = a.defers → Q .normal a' w') → wpOpsIn (Fro ro) n X.E.P ops Q (List.range' i rest.length) a w := by
  intro rest
  induction rest with
  | nil => intro i φ w fr h a k ro n Q _ he hR hF hq; exact hq fr h φ w a he hR (.refl _ _ _) hF rfl
  | cons o rest rec =>
    intro i φ w fr h a k ro n Q hd he hR hF hq
    have hoi : ops[i]? = some o := by
      have := congrArg (·[0]?) hd
      simp only [List.getElem?_drop, Nat.add_zero, List.getElem?_cons_zero] at this
      rw [← this, Array.getElem?_toList]
    have hd' : ops.toList.drop (i + 1) = rest := by rw [← List.drop_drop, hd]; rfl
    show wpOpsIn (Fro ro) n X.E.P ops Q (i :: List.range' (i + 1) rest.length) a w
    unfold wpOpsIn
    rw [hoi]
    simp only
    have go : ∀ φ' w' h' x v fr', R φ' h' w' → St φ h w φ' h' w' → FR φ' fr' (a.put o.dst v).tmps → seqOps X ih ops.toList rest fr' h' k = some r → VR φ' x v → wpOpsIn (Fro ro) n X.E.P ops Q (List.range' (i + 1) rest.length) (a.put o.dst v) w' := by
      intro φ' w' h' x v fr' hR' hS hF' he' hx
      refine rec (i + 1) φ' w' fr' h' (a.put o.dst v) k ro n Q hd' he' hR' hF' fun fr2 h2 φ2 w2 a2 e1 e2 e3 e4 e5 => ?_
      exact hq fr2 h2 φ2 w2 a2 e1 e2 (hS.trans e3) e4 (by rw [e5, put_defers])
    rcases wantK_some hF he with ⟨hw, hy⟩ | ⟨hw, hy⟩
    · rw [if_pos hw]
      obtain ⟨v, h', h1, h2⟩ := opRunK_some (k := fun v h' => putK none fr o.dst v fun fr' => seqOps X ih ops.toList rest fr' h' k) HT HK hih hR hF hy
      refine h2 ro n Q _ fun φ' u w' hu hR' hS => ?_
      obtain ⟨fr', h3, h4⟩ := putK_some (v := u) h1 (hF.ext hS.ext) hu
      exact go φ' w' h' v u fr' hR' hS h4 h3 hu
    · rw [if_neg (by rw [hw]; exact Bool.false_ne_true)]
      refine ⟨fun _ _ => trivial, ?_⟩
      obtain ⟨fr', h3, h4⟩ := putK_some (x := .tup []) (v := undef) hy hF (.tup [] #[] .nil)
      exact go φ w h (.tup []) undef fr' hR (.refl _ _ _) h4 h3 (.tup [] #[] .nil)
end
end Go.Proofs.YtibmpjhffeinoaaGreat.Kx

namespace Go.Proofs.YtibmpjhffeinoaaGreat.Kx
open Go
variable [Val] [Bet]

noncomputable section
variable {X : Exe} {P : Program} {φ : Phi} {h : AH} {w : World} {fr : AF} {a : Act} {β : Type} {r : β}

/-- What is asked of a region that draws its order. -/
def DrawOK (X : Exe) : Prop := ∀ (ih : Task → Option Res), Sound X.E.P ih → ∀ (id : Nat) (ops : Array Oper) (fr : AF) (h : AH) (k : AF → AH → Option Res) (r : Res), drawK X ih ops.toList fr h k = some r →
  ∀ (φ : Phi) (w : World) (a : Act) (ro : Option Nat) (n : Nat) (Q : Exit → Act → World → Prop), R φ h w → FR φ fr a.tmps →
    (∀ fr' h' φ' w' a', k fr' h' = some r → R φ' h' w' → St φ h w φ' h' w' → FR φ' fr' a'.tmps → a'.defers = a.defers → Q .normal a' w') → (Code.region id ops true).wpIn (Fro ro) n X.E.P Q a w
section
variable {rd : Option Nat} {ds ds' : List Nat} {c c' : Code} {fr' : AF} {h' : AH} {e : AEx}
theorem CodeOK.of (hc : ∀ b, c ≠ .loop b) (H : ∀ (φ : Phi) (w : World) (a : Act) (ro : Option Nat) (n : Nat) (Q : Exit → Act → World → Prop), R φ h w → FR φ fr a.tmps → Mk φ ds a.defers → RO φ rd ro →
    (∀ φ' w' a', R φ' h' w' → St φ h w φ' h' w' → FR φ' fr' a'.tmps → Mk φ' ds' a'.defers → Q e.exit' a' w') → c.wpIn (Fro ro) n P Q a w) : CodeOK P rd ds c fr h e ds' fr' h' := by
  intro φ w a ro n Q h1 h2 h3 h4 h5
  cases c
  case loop b => exact absurd rfl (hc b)
  all_goals exact H φ w a ro n Q h1 h2 h3 h4 h5
theorem CodeOK.in (H : CodeOK P rd ds c fr h e ds' fr' h') {ro : Option Nat} {n : Nat} {Q : Exit → Act → World → Prop} (h1 : R φ h w) (h2 : FR φ fr a.tmps) (h3 : Mk φ ds a.defers) (h4 : RO φ rd ro)
    (h5 : ∀ φ' w' a', R φ' h' w' → St φ h w φ' h' w' → FR φ' fr' a'.tmps → Mk φ' ds' a'.defers → Q e.exit' a' w') : c.wpIn (Fro ro) n P Q a w := wpX_in (H φ w a ro n Q h1 h2 h3 h4 h5)
theorem code_seq {ih : Task → Option Res} (hih : Sound P ih) {res : Res} (he : (match ih (.code rd ds c fr h) with | some (.code .normal ds fr h) => ih (.code rd ds c' fr h) | r => r) = some res) : TaskOK P (.code rd ds (.seq c c') fr h) res := by
  cases h1 : ih (.code rd ds c fr h) with
  | none => rw [h1] at he; cases he
  | some r1 =>
    have ok1 := hih _ _ h1
    rw [h1] at he
    cases r1 with
    | val v h1 => cases res with
      | val => trivial
      | code => cases he
    | code e1 ds1 fr1 h1' =>
      cases e1 with
      | normal =>
        have ok2 := hih _ _ he
        cases res with
        | val => trivial
        | code e2 ds2 fr2 h2 =>
          refine CodeOK.of (by simp) fun φ w a ro n Q k1 k2 k3 k4 k5 => wpIn_seq (CodeOK.in ok1 k1 k2 k3 k4 fun φ1 w1 a1 m1 m2 m3 m4 => ?_)
          exact CodeOK.in ok2 m1 m3 m4 (k4.ext m2.ext) fun φ2 w2 a2 l1 l2 l3 l4 => k5 φ2 w2 a2 l1 (m2.trans l2) l3 l4
      | exit id =>
        cases he
        exact CodeOK.of (by simp) fun φ w a ro n Q k1 k2 k3 k4 k5 => wpIn_seq (CodeOK.in ok1 k1 k2 k3 k4 fun φ1 w1 a1 m1 m2 m3 m4 => k5 φ1 w1 a1 m1 m2 m3 m4)
      | ret =>
        cases he
        exact CodeOK.of (by simp) fun φ w a ro n Q k1 k2 k3 k4 k5 => wpIn_seq (CodeOK.in ok1 k1 k2 k3 k4 fun φ1 w1 a1 m1 m2 m3 m4 => k5 φ1 w1 a1 m1 m2 m3 m4)
theorem code_loop {ih : Task → Option Res} (hih : Sound P ih) {res : Res} (he : (match ih (.code rd ds c fr h) with | some (.code .normal ds fr h) => ih (.code rd ds (.loop c) fr h) | r => r) = some res) : TaskOK P (.code rd ds (.loop c) fr h) res := by
  cases h1 : ih (.code rd ds c fr h) with
  | none => rw [h1] at he; cases he
  | some r1 =>
    have ok1 := hih _ _ h1
    rw [h1] at he
    cases r1 with
    | val v h1 => cases res with
      | val => trivial
      | code => cases he
    | code e1 ds1 fr1 h1' =>
      cases e1 with
      | normal =>
        have ok2 := hih _ _ he
        cases res with
        | val => trivial
        | code e2 ds2 fr2 h2 =>
          intro φ w a ro n Q k1 k2 k3 k4 k5
          refine wpX_loop (CodeOK.in ok1 k1 k2 k3 k4 fun φ1 w1 a1 m1 m2 m3 m4 => ?_)
          exact ok2 φ1 w1 a1 ro n Q m1 m3 m4 (k4.ext m2.ext) fun φ2 w2 a2 l1 l2 l3 l4 => k5 φ2 w2 a2 l1 (m2.trans l2) l3 l4
      | exit id =>
        cases he
        intro φ w a ro n Q k1 k2 k3 k4 k5
        exact wpX_loop (CodeOK.in ok1 k1 k2 k3 k4 fun φ1 w1 a1 m1 m2 m3 m4 => k5 φ1 w1 a1 m1 m2 m3 m4)
      | ret =>
        cases he
        intro φ w a ro n Q k1 k2 k3 k4 k5
        exact wpX_loop (CodeOK.in ok1 k1 k2 k3 k4 fun φ1 w1 a1 m1 m2 m3 m4 => k5 φ1 w1 a1 m1 m2 m3 m4)
theorem code_block {ih : Task → Option Res} (hih : Sound P ih) {id : Nat} {res : Res} (he : (match ih (.code rd ds c fr h) with | some (.code (.exit j) ds fr h) => ite_ (Nat.beq j id) (some (.code .normal ds fr h)) (some (.code (.exit j) ds fr h)) | r => r) = some res) : TaskOK P (.code rd ds (.block id c) fr h) res := by
  cases h1 : ih (.code rd ds c fr h) with
  | none => rw [h1] at he; cases he
  | some r1 =>
    have ok1 := hih _ _ h1
    rw [h1] at he
    cases r1 with
    | val v h1 => cases res with
      | val => trivial
      | code => cases he
    | code e1 ds1 fr1 h1' =>
      cases e1 with
      | normal =>
        cases he
        exact CodeOK.of (by simp) fun φ w a ro n Q k1 k2 k3 k4 k5 => wpIn_block (CodeOK.in ok1 k1 k2 k3 k4 fun φ1 w1 a1 m1 m2 m3 m4 => k5 φ1 w1 a1 m1 m2 m3 m4)
      | ret =>
        cases he
        exact CodeOK.of (by simp) fun φ w a ro n Q k1 k2 k3 k4 k5 => wpIn_block (CodeOK.in ok1 k1 k2 k3 k4 fun φ1 w1 a1 m1 m2 m3 m4 => k5 φ1 w1 a1 m1 m2 m3 m4)
      | exit j =>
        simp only [beq_dec] at he
        by_cases hj : j = id
        · rw [decide_eq_true hj] at he
          cases he
          refine CodeOK.of (by simp) fun φ w a ro n Q k1 k2 k3 k4 k5 => wpIn_block (CodeOK.in ok1 k1 k2 k3 k4 fun φ1 w1 a1 m1 m2 m3 m4 => ?_)
          show if j = id then Q .normal a1 w1 else Q (.exit j) a1 w1
          rw [if_pos hj]
          exact k5 φ1 w1 a1 m1 m2 m3 m4
        · rw [decide_eq_false hj] at he
          cases he
          refine CodeOK.of (by simp) fun φ w a ro n Q k1 k2 k3 k4 k5 => wpIn_block (CodeOK.in ok1 k1 k2 k3 k4 fun φ1 w1 a1 m1 m2 m3 m4 => ?_)
          show if j = id then Q .normal a1 w1 else Q (.exit j) a1 w1
          rw [if_neg hj]
          exact k5 φ1 w1 a1 m1 m2 m3 m4
theorem code_scope {ih : Task → Option Res} (hih : Sound P ih) {res : Res} (he : ih (.code rd ds c fr h) = some res) : TaskOK P (.code rd ds (.scope c) fr h) res := by
  have ok1 := hih _ _ he
  cases res with
  | val => trivial
  | code e1 ds1 fr1 h1 =>
    refine CodeOK.of (by simp) fun φ w a ro n Q k1 k2 k3 k4 k5 => wpIn_scope (CodeOK.in ok1 k1 k2 k3 k4 fun φ1 w1 a1 m1 m2 m3 m4 => ?_)
    have := k5 φ1 w1 a1 m1 m2 m3 m4
    cases e1 <;> exact this
theorem code_cond {ih : Task → Option Res} (hih : Sound P ih) {o : Operand} {res : Res} (he : (evalK none fr o fun c0 => match c0 with | .bool b' => ite_ b' (ih (.code rd ds c fr h)) (ih (.code rd ds c' fr h)) | _ => none) = some res) : TaskOK P (.code rd ds (.cond o c c') fr h) res := by
  cases res with
  | val => trivial
  | code e1 ds1 fr1 h1 =>
    refine CodeOK.of (by simp) fun φ w a ro n Q k1 k2 k3 k4 k5 => ?_
    obtain ⟨x, h2, h3⟩ := evalK_some he k2
    split at h2
    · rename_i b'
      generalize hv : a.eval o = v at h3
      cases h3
      refine wpIn_cond hv ?_
      cases b' with
      | true => exact CodeOK.in (hih _ _ h2) k1 k2 k3 k4 k5
      | false => exact CodeOK.in (hih _ _ h2) k1 k2 k3 k4 k5
    · cases h2
theorem xcode_seq {c c' : XC} {ih : Task → Option Res} (hih : Sound P ih) {res : Res} (he : (match ih (.xcode rd ds c fr h) with | some (.code .normal ds fr h) => ih (.xcode rd ds c' fr h) | r => r) = some res) : TaskOK P (.xcode rd ds (.seq c c') fr h) res := by
  cases h1 : ih (.xcode rd ds c fr h) with
  | none => rw [h1] at he; cases he
  | some r1 =>
    have ok1 := hih _ _ h1
    rw [h1] at he
    cases r1 with
    | val v h1 => cases res with
      | val => trivial
      | code => cases he
    | code e1 ds1 fr1 h1' =>
      cases e1 with
      | normal =>
        have ok2 := hih _ _ he
        cases res with
        | val => trivial
        | code e2 ds2 fr2 h2 =>
          refine fun hok => CodeOK.of (by simp [XC.real]) fun φ w a ro n Q k1 k2 k3 k4 k5 => wpIn_seq (CodeOK.in (ok1 hok.1) k1 k2 k3 k4 fun φ1 w1 a1 m1 m2 m3 m4 => ?_)
          exact CodeOK.in (ok2 hok.2) m1 m3 m4 (k4.ext m2.ext) fun φ2 w2 a2 l1 l2 l3 l4 => k5 φ2 w2 a2 l1 (m2.trans l2) l3 l4
      | exit id =>
        cases he
        exact fun hok => CodeOK.of (by simp [XC.real]) fun φ w a ro n Q k1 k2 k3 k4 k5 => wpIn_seq (CodeOK.in (ok1 hok.1) k1 k2 k3 k4 fun φ1 w1 a1 m1 m2 m3 m4 => k5 φ1 w1 a1 m1 m2 m3 m4)
      | ret =>
        cases he
        exact fun hok => CodeOK.of (by simp [XC.real]) fun φ w a ro n Q k1 k2 k3 k4 k5 => wpIn_seq (CodeOK.in (ok1 hok.1) k1 k2 k3 k4 fun φ1 w1 a1 m1 m2 m3 m4 => k5 φ1 w1 a1 m1 m2 m3 m4)
theorem xcode_loop {c : XC} {ih : Task → Option Res} (hih : Sound P ih) {res : Res} (he : (match ih (.xcode rd ds c fr h) with | some (.code .normal ds fr h) => ih (.xcode rd ds (.loop c) fr h) | r => r) = some res) : TaskOK P (.xcode rd ds (.loop c) fr h) res := by
  cases h1 : ih (.xcode rd ds c fr h) with
  | none => rw [h1] at he; cases he
  | some r1 =>
    have ok1 := hih _ _ h1
    rw [h1] at he
    cases r1 with
    | val v h1 => cases res with
      | val => trivial
      | code => cases he
    | code e1 ds1 fr1 h1' =>
      cases e1 with
      | normal =>
        have ok2 := hih _ _ he
        cases res with
        | val => trivial
        | code e2 ds2 fr2 h2 =>
          intro hok φ w a ro n Q k1 k2 k3 k4 k5
          refine wpX_loop (CodeOK.in (ok1 hok) k1 k2 k3 k4 fun φ1 w1 a1 m1 m2 m3 m4 => ?_)
          exact ok2 hok φ1 w1 a1 ro n Q m1 m3 m4 (k4.ext m2.ext) fun φ2 w2 a2 l1 l2 l3 l4 => k5 φ2 w2 a2 l1 (m2.trans l2) l3 l4
      | exit id =>
        cases he
        intro hok φ w a ro n Q k1 k2 k3 k4 k5
        exact wpX_loop (CodeOK.in (ok1 hok) k1 k2 k3 k4 fun φ1 w1 a1 m1 m2 m3 m4 => k5 φ1 w1 a1 m1 m2 m3 m4)
      | ret =>
        cases he
        intro hok φ w a ro n Q k1 k2 k3 k4 k5
        exact wpX_loop (CodeOK.in (ok1 hok) k1 k2 k3 k4 fun φ1 w1 a1 m1 m2 m3 m4 => k5 φ1 w1 a1 m1 m2 m3 m4)
theorem xcode_block {c : XC} {ih : Task → Option Res} (hih : Sound P ih) {id : Nat} {res : Res} (he : (match ih (.xcode rd ds c fr h) with | some (.code (.exit j) ds fr h) => ite_ (Nat.beq j id) (some (.code .normal ds fr h)) (some (.code (.exit j) ds fr h)) | r => r) = some res) : TaskOK P (.xcode rd ds (.block id c) fr h) res := by
  cases h1 : ih (.xcode rd ds c fr h) with
  | none => rw [h1] at he; cases he
  | some r1 =>
    have ok1 := hih _ _ h1
    rw [h1] at he
    cases r1 with
    | val v h1 => cases res with
      | val => trivial
      | code => cases he
    | code e1 ds1 fr1 h1' =>
      cases e1 with
      | normal =>
        cases he
        exact fun hok => CodeOK.of (by simp [XC.real]) fun φ w a ro n Q k1 k2 k3 k4 k5 => wpIn_block (CodeOK.in (ok1 hok) k1 k2 k3 k4 fun φ1 w1 a1 m1 m2 m3 m4 => k5 φ1 w1 a1 m1 m2 m3 m4)
      | ret =>
        cases he
        exact fun hok => CodeOK.of (by simp [XC.real]) fun φ w a ro n Q k1 k2 k3 k4 k5 => wpIn_block (CodeOK.in (ok1 hok) k1 k2 k3 k4 fun φ1 w1 a1 m1 m2 m3 m4 => k5 φ1 w1 a1 m1 m2 m3 m4)
      | exit j =>
        simp only [beq_dec] at he
        by_cases hj : j = id
        · rw [decide_eq_true hj] at he
          cases he
          refine fun hok => CodeOK.of (by simp [XC.real]) fun φ w a ro n Q k1 k2 k3 k4 k5 => wpIn_block (CodeOK.in (ok1 hok) k1 k2 k3 k4 fun φ1 w1 a1 m1 m2 m3 m4 => ?_)
          show if j = id then Q .normal a1 w1 else Q (.exit j) a1 w1
          rw [if_pos hj]
          exact k5 φ1 w1 a1 m1 m2 m3 m4
        · rw [decide_eq_false hj] at he
          cases he
          refine fun hok => CodeOK.of (by simp [XC.real]) fun φ w a ro n Q k1 k2 k3 k4 k5 => wpIn_block (CodeOK.in (ok1 hok) k1 k2 k3 k4 fun φ1 w1 a1 m1 m2 m3 m4 => ?_)
          show if j = id then Q .normal a1 w1 else Q (.exit j) a1 w1
          rw [if_neg hj]
          exact k5 φ1 w1 a1 m1 m2 m3 m4
theorem xcode_scope {c : XC} {ih : Task → Option Res} (hih : Sound P ih) {res : Res} (he : ih (.xcode rd ds c fr h) = some res) : TaskOK P (.xcode rd ds (.scope c) fr h) res := by
  have ok1 := hih _ _ he
  cases res with
  | val => trivial
  | code e1 ds1 fr1 h1 =>
    refine fun hok => CodeOK.of (by simp [XC.real]) fun φ w a ro n Q k1 k2 k3 k4 k5 => wpIn_scope (CodeOK.in (ok1 hok) k1 k2 k3 k4 fun φ1 w1 a1 m1 m2 m3 m4 => ?_)
    have := k5 φ1 w1 a1 m1 m2 m3 m4
    cases e1 <;> exact this
theorem xcode_cond {c c' : XC} {ih : Task → Option Res} (hih : Sound P ih) {o : Operand} {res : Res} (he : (evalK none fr o fun c0 => match c0 with | .bool b' => ite_ b' (ih (.xcode rd ds c fr h)) (ih (.xcode rd ds c' fr h)) | _ => none) = some res) : TaskOK P (.xcode rd ds (.cond o c c') fr h) res := by
  cases res with
  | val => trivial
  | code e1 ds1 fr1 h1 =>
    refine fun hok => CodeOK.of (by simp [XC.real]) fun φ w a ro n Q k1 k2 k3 k4 k5 => ?_
    obtain ⟨x, h2, h3⟩ := evalK_some he k2
    split at h2
    · rename_i b'
      generalize hv : a.eval o = v at h3
      cases h3
      refine wpIn_cond hv ?_
      cases b' with
      | true => exact CodeOK.in ((hih _ _ h2) hok.1) k1 k2 k3 k4 k5
      | false => exact CodeOK.in ((hih _ _ h2) hok.2) k1 k2 k3 k4 k5
    · cases h2
end
end
end Go.Proofs.YtibmpjhffeinoaaGreat.Kx

namespace Go.Proofs.YtibmpjhffeinoaaGreat.Kx
open Go
variable [Val] [Bet]

noncomputable section
variable {X : Exe} {E : Env} {P : Program} {φ : Phi} {h : AH} {w : World} {fr : AF} {a : Act} {β : Type} {r : β}

/-! ### The results -/
theorem loadOpK_V (HT : TabOK E) (hR : R φ h w) {t : Nat} {x : AV} {xv : Value} {k : AV → AH → Option β} (hx : VR φ x xv) (he : loadOpK none E t x h k = some r) : ∃ x v ad, k x h = some r ∧ xv = .pointer (some ad) ∧ (loadVar t ad).run E.P w = .ok v w ∧ VR φ x v := by
  unfold loadOpK at he
  split at he
  · rename_i i o
    cases hx
    rename_i g d hp
    obtain ⟨ti, inf, dsc, z, _, T, h1⟩ := tabK_some HT he
    obtain ⟨xs, us, h2, h3, h4, h5, h6⟩ := loadK_some h1 hR hp
    have hl : us.length = ti.size := by rw [← h4.length, h2]
    have hrun := run_load_n (P := E.P) hl h5
    cases ha : ti.d.agg with
    | true =>
      rw [ha, ite_true_] at h3
      refine ⟨_, .agg us.toArray, _, h3, rfl, ?_, .agg _ _ (by simpa using h4)⟩
      unfold loadVar
      simp only [Sem.run_bind, Sem.run_pure, Result.andThen, T.run_agg, ha, if_true, T.run_size, hrun]
    | false =>
      rw [ha, ite_false_] at h3
      unfold oneOfK at h3
      split at h3
      · rename_i y
        cases h4 with
        | cons _ v _ vs h7 h8 =>
          cases h8
          refine ⟨_, v, _, h3, rfl, ?_, h7⟩
          have hc := h5 0 v rfl
          rw [add_at, Nat.add_zero] at hc
          unfold loadVar
          simp only [Sem.run_bind, Result.andThen, T.run_agg, ha, if_false, Bool.false_eq_true]
          simp [load, Sem.run, hc]
      · cases h3
  · cases he
def resSem (tmps : Array Value) : ResultVar → Sem Value
  | .tmp t => pure (tmps.getD t undef)
  | .cell a t => do loadVar t (← asAddr (tmps.getD a undef))
theorem resultsK_some (HT : TabOK E) (hR : R φ h w) (hF : FR φ fr a.tmps) : ∀ (rs : List ResultVar) {k : List AV → Option β}, resultsK E rs fr h k = some r → ∃ xs us, k xs = some r ∧ VRs φ xs us ∧ (rs.mapM (resSem a.tmps)).run E.P w = .ok us w := by
  intro rs
  induction rs with
  | nil => intro k he; exact ⟨[], [], he, .nil, rfl⟩
  | cons q rs ih =>
    intro k he
    cases q with
    | tmp t =>
      obtain ⟨x, h1, h2⟩ := getK_some (k := fun x => resultsK E rs fr h fun xs => k (x :: xs)) he
      obtain ⟨v, h3, h4⟩ := hF.2 t x h1
      obtain ⟨xs, us, h5, h6, h7⟩ := ih h2
      refine ⟨x :: xs, v :: us, h5, .cons _ _ _ _ h4 h6, ?_⟩
      rw [List.mapM_cons]
      simp only [Sem.run_bind, resSem, Sem.run_pure, Result.andThen, h7]
      rw [Array.getD_eq_getD_getElem?, h3]
      rfl
    | cell p t =>
      obtain ⟨x, h1, h2⟩ := getK_some (k := fun p => loadOpK none E t p h fun x _ => resultsK E rs fr h fun xs => k (x :: xs)) he
      obtain ⟨v, h3, h4⟩ := hF.2 p x h1
      obtain ⟨y, u, ad, h8, rfl, h9, h10⟩ := loadOpK_V HT hR h4 h2
      obtain ⟨xs, us, h5, h6, h7⟩ := ih h8
      refine ⟨y :: xs, u :: us, h5, .cons _ _ _ _ h10 h6, ?_⟩
      have hg : a.tmps.getD p undef = .pointer (some ad) := by rw [Array.getD_eq_getD_getElem?, h3]; rfl
      rw [List.mapM_cons]
      simp only [Sem.run_bind, resSem, hg, asAddr, Sem.run_pure, Result.andThen, h7, h9]
omit [Bet] in
theorem tupK_some {xs : List AV} {us : List Value} {k : AV → Option β} (hx : VRs φ xs us) (he : tupK xs k = some r) : ∃ v, k v = some r ∧ VR φ v (if h : us.toArray.size = 1 then us.toArray[0] else .tuple us.toArray) := by
  unfold tupK at he
  split at he
  · rename_i x
    cases hx with
    | cons _ v _ vs h1 h2 => cases h2; exact ⟨x, he, h1⟩
  · rename_i hne
    refine ⟨_, he, ?_⟩
    have hl := hx.length
    rw [dif_neg]
    · exact .tup _ _ (by simpa using hx)
    · intro h1
      have h2 : xs.length = 1 := by rw [hl]; simpa using h1
      obtain ⟨x, rfl⟩ := List.length_eq_one_iff.1 h2
      exact hne x rfl
omit [Val] [Bet] in
theorem run_results {fn : Func} {tmps : Array Value} {us : List Value} (hr : (fn.results.toList.mapM (resSem tmps)).run P w = .ok us w) : (results fn tmps).run P w = .ok (if h : us.toArray.size = 1 then us.toArray[0] else .tuple us.toArray) w := by
  have e : results fn tmps = (do let vs ← fn.results.mapM (resSem tmps); pure (if h : vs.size = 1 then vs[0] else .tuple vs)) := by
    unfold results
    congr 1
  rw [e, Array.mapM_eq_mapM_toList]
  simp only [Sem.run_bind, map_eq_pure_bind, Sem.run_pure, Result.andThen, hr]

/-! ### Marks -/
theorem R.dead (hR : R φ h w) {i g : Nat} {d : Nat × Nat} {ao : AO} {h' : AH} {w' : World} (hi : h.get i = some ao) (hp : φ i = some (g, d)) (hn : h'.nx = h.nx) (hk : ∀ k, k ≠ g → w'.heap[k]? = w.heap[k]?) (hs : w'.heap.size = w.heap.size)
    (hh : ∀ m a, h'.get m = some a → m ≠ i ∧ h.get m = some a) (ho : w'.os = w.os) (ht : w'.tape = w.tape) (hout : w'.output = w.output) (hfz : ao.isF = false := by rfl) : R φ h' w' ∧ St φ h w φ h' w' := by
  refine ⟨⟨fun m a hm => ?_, fun m m' x y g' d' e' h1 h2 h3 h4 => hR.inj m m' x y g' d' e' (hh m x h1).2 (hh m' y h2).2 h3 h4, fun m p hp' => by rw [hn]; exact hR.dom m p hp'⟩,
    ⟨⟨.refl _, by rw [hn]; exact Nat.le_refl _, by rw [hs]; exact Nat.le_refl _, fun k _ hno => hk k fun e => hno i ao d hi hfz (by rw [e]; exact hp), fun m x g' d' h1 hf h2 _ => ⟨m, x, d', (hh m x h1).2, hf, h2⟩, fun m x h1 h2 => ⟨x, (hh m x h1).2, h2⟩, ho, ht, hout⟩, fun _ _ => rfl⟩⟩
  obtain ⟨h1, h2⟩ := hh m a hm
  obtain ⟨g', d', o, h3, h4, h5⟩ := hR.obj m a h2
  refine ⟨g', d', o, h3, ?_, h5⟩
  rw [hk g' fun e => h1 (hR.injB h2 hi (by rw [← e]; exact h3) hp hfz)]
  exact h4
omit [Val] [Bet] in
theorem run_getObj {g : Nat} {o : Obj} (hg : w.heap[g]? = some o) (hn : ∀ c e z, o ≠ .cells c e z) : (getObj g).run P w = .ok o w := by
  simp only [getObj, Sem.run, hg]
omit [Val] [Bet] in
theorem run_setObj {g : Nat} {o0 : Obj} (hg : w.heap[g]? = some o0) (hn : ∀ c e z, o0 ≠ .cells c e z) (o : Obj) : (setObj g o).run P w = .ok () { w with heap := w.heap.setIfInBounds g o } := by
  simp only [setObj, Sem.run, hg]
def shut1K (ds : List Nat) (d : Nat) (h : AH) (k : AH → Option β) (ao : AO) : Option β := match ao with
  | .deferred => setHK none h d .dead fun h => shutK ds h k
  | _ => none
omit [Val] [Bet] in
theorem shutK_cons {ds : List Nat} {d : Nat} {k : AH → Option β} : shutK (d :: ds) h k = getK none h.t d (shut1K ds d h k) := rfl
/-- The marks are taken; then the results. -/
theorem shutK_some {fn : Func} {n : Nat} {Q : Ending → World → Prop} {tmps : Array Value} : ∀ (ds : List Nat) (es : List Deferred) (φ : Phi) (h : AH) (w : World) (k : AH → Option β), R φ h w → Mk φ ds es → shutK ds h k = some r →
    (∀ h' w', k h' = some r → R φ h' w' → St φ h w φ h' w' → ∃ v, (results fn tmps).run P w' = .ok v w' ∧ Q (.returned v) w') → LeavesInM (Fro none) n P fn tmps Q es .returning w := by
  intro ds
  induction ds with
  | nil =>
    intro es φ h w k hR hM he hq
    cases es with
    | cons _ _ => exact hM.elim
    | nil => exact hq h w he hR (.refl _ _ _)
  | cons d ds ih =>
    intro es φ h w k hR hM he hq
    cases es with
    | nil => exact hM.elim
    | cons e es =>
      obtain ⟨⟨g, z, hp, rfl⟩, hM⟩ := hM
      rw [shutK_cons] at he
      obtain ⟨ao, h1, h2⟩ := getK_some he
      unfold shut1K at h2
      split at h2
      · obtain ⟨h', h3, h4, h5⟩ := setHK_some h2
        have hi : h.get d = some .deferred := AH.get_of h1 (by simp)
        obtain ⟨g', z', o, h6, h7, h8⟩ := hR.obj d _ hi
        rw [hp] at h6
        cases h6
        have h8 : o = .deferred (some []) := h8
        subst h8
        obtain ⟨f1, f2, f3⟩ := set_facts h7 (.deferred none)
        obtain ⟨r1, r2⟩ := hR.dead (h' := h') (w' := { w with heap := w.heap.setIfInBounds g (.deferred none) }) hi hp h3 f2 f3 (fun m a hm => by
          rcases h4 m a hm with ⟨rfl, rfl⟩ | h9
          · exact absurd rfl (AH.of_get hm).2
          · exact h9) rfl rfl rfl
        refine ⟨(fun h => by cases h), .inl ⟨g, _, rfl, ?_, ih es φ h' _ k r1 hM h5 fun h2 w2 e1 e2 e3 => hq h2 w2 e1 e2 (r2.trans e3)⟩⟩
        unfold Instr.takeDeferred
        simp only [Sem.run_bind, run_getObj h7 (by simp), Result.andThen, run_setObj h7 (by simp)]
        rfl
      · cases h2
end
end Go.Proofs.YtibmpjhffeinoaaGreat.Kx

namespace Go.Proofs.YtibmpjhffeinoaaGreat.Kx
open Go
variable [Val] [Bet]

noncomputable section
variable {X : Exe} {E : Env} {P : Program} {φ : Phi} {h : AH} {w : World} {fr : AF} {a : Act} {β : Type} {r : β}

theorem loopK_some (hR : R φ h w) {i : Nat} {k : LoopState → Option Code → AF → List Nat → Code → Code → Nat → Option β} (he : loopK h i k = some r) :
    ∃ st pend lf ps as bd df g z lo d, h.get i = some (.loop st pend lf ps as bd df) ∧ k st pend lf ps as bd df = some r ∧ φ i = some (g, z) ∧ w.heap[g]? = some (.loop lo) ∧
      lo.state = st ∧ lo.pending = pend ∧ FR φ lf lo.tmps ∧ lo.params.toList = ps ∧ lo.assign = as ∧ lo.body = bd ∧ φ df = some (lo.defers, d) := by
  obtain ⟨ao, h1, h2⟩ := getK_some he
  cases ao with
  | loop st pend lf ps as bd df =>
    have hi : h.get i = some (.loop st pend lf ps as bd df) := AH.get_of h1 (by simp)
    obtain ⟨g, z, o, h3, h4, lo, rfl, e1, e2, e3, e4, e5, e6, d, e7⟩ := hR.obj i _ hi
    exact ⟨st, pend, lf, ps, as, bd, df, g, z, lo, d, hi, h2, h3, h4, e1, e2, e3, e4, e5, e6, e7⟩
  | _ => cases h2
/-- The record of a loop is written. -/
theorem setLoop_some (hR : R φ h w) {i g df : Nat} {z d : Nat × Nat} {ao : AO} {lo : Loop} {st' : LoopState} {pend' : Option Code} {lf : AF} {ps : List Nat} {as bd : Code} {k : AH → Option β}
    (hi : h.get i = some ao) (hp : φ i = some (g, z)) (hg : w.heap[g]? = some (.loop lo)) (e3 : FR φ lf lo.tmps) (e4 : lo.params.toList = ps) (e5 : lo.assign = as) (e6 : lo.body = bd) (e7 : φ df = some (lo.defers, d))
    (he : setHK none h i (.loop st' pend' lf ps as bd df) k = some r) : ∃ h', k h' = some r ∧
      R φ h' { w with heap := w.heap.setIfInBounds g (.loop { lo with state := st', pending := pend' }) } ∧ St φ h w φ h' { w with heap := w.heap.setIfInBounds g (.loop { lo with state := st', pending := pend' }) } ∧
      (setObj g (.loop { lo with state := st', pending := pend' })).run P w = .ok () { w with heap := w.heap.setIfInBounds g (.loop { lo with state := st', pending := pend' }) } := by
  obtain ⟨h', h1, h2, h3⟩ := setHK_some he
  obtain ⟨f1, f2, f3⟩ := set_facts hg (.loop { lo with state := st', pending := pend' })
  have hfz : ao.isF = false := by
    obtain ⟨g2, d2, o2, q1, q2, q3⟩ := hR.obj i ao hi
    rw [hp] at q1
    cases q1
    rw [hg] at q2
    cases q2
    cases ao with
    | froz cs => obtain ⟨_, _, _, q4, _⟩ := q3; cases q4
    | _ => rfl
  obtain ⟨r1, r2⟩ := hR.set_ (h' := h') (ao' := .loop st' pend' lf ps as bd df) hi hp h1 f1 f2 f3 h2 ⟨_, rfl, rfl, rfl, e3, e4, e5, e6, d, e7⟩ rfl rfl rfl hfz
  exact ⟨h', h3, r1, r2, run_setObj hg (by simp) _⟩
omit [Val] [Bet] in
theorem run_getLoop {g : Nat} {lo : Loop} (hg : w.heap[g]? = some (.loop lo)) : (Instr.getLoop g).run P w = .ok lo w := by
  unfold Instr.getLoop
  simp only [Sem.run_bind, run_getObj hg (by simp), Result.andThen]
  rfl
/-- The function that is ranged over is called; behind it. -/
theorem goK_some {ih : Task → Option Res} (hih : Sound P ih) {rd : Option Nat} {ds : List Nat} {gf : FuncId} {first cap : List AV} {ps : Array Tmp} {as bd : Code} {q : Nat} {qd : Nat × Nat} {qg : Nat} {e : AEx} {ds' : List Nat} {fr' : AF} {h' : AH}
    (he : goK ih rd ds (.func gf) first cap ps.toList as bd fr q h = some (.code e ds' fr' h')) (hR : R φ h w) (hF : FR φ fr a.tmps) (hq : φ q = some (qg, qd)) {g : Operand} {us vs : Array Value} (hg : a.eval g = .func (.func gf) us vs) (h1 : VRs φ first us.toList) (h2 : VRs φ cap vs.toList)
    {ro : Option Nat} {n : Nat} {Q : Exit → Act → World → Prop} {a' : Act} (ht : a'.tmps = a.tmps) (hM : Mk φ ds a'.defers) (hro : RO φ rd ro) (fn : FuncId) (_w0 : World)
    (hQ : ∀ φ' w' a'', R φ' h' w' → St φ h w φ' h' w' → FR φ' fr' a''.tmps → Mk φ' ds' a''.defers → Q e.exit' a'' w') :
    ∃ (l : Nat) (w₁ : World) (d : Deferred) (f : FuncId) (args : Array Value), (newObj (.loop { state := .ready, pending := none, fn, tmps := a.tmps, params := ps, assign := as, body := bd, defers := qg })).run P w = .ok l w₁ ∧
      (resolve a.eval (rangeCall g l) 0).run P w₁ = .ok d w₁ ∧ (invoke d.target d.args).run P w₁ = .ok (.enter f args) w₁ ∧ CallsIn (Fro ro) (n - 1) P f args w₁ (rangePost (Fro ro) n P l Q a') := by
  obtain ⟨h1', e1, e2, e3⟩ := newHK_some he
  rw [appK_eq] at e3
  let lo : Loop := { state := .ready, pending := none, fn, tmps := a.tmps, params := ps, assign := as, body := bd, defers := qg }
  have hx := Phi.upd_ext (p := (w.heap.size, 0, 0)) hR.fresh
  obtain ⟨r1, r2⟩ := hR.new_ (h' := h1') (z := 0) (w' := w.alloc (.loop lo)) (o := .loop lo) (ao := .loop .ready none fr ps.toList as bd q) e1 rfl e2 ⟨lo, rfl, rfl, rfl, hF.ext hx, rfl, rfl, rfl, qd, hx _ _ hq⟩ rfl rfl rfl
  have hnew : (φ.upd h.nx (w.heap.size, 0, 0)) h.nx = some (w.heap.size, 0, 0) := Phi.upd_same _ _
  have hargs : VRs (φ.upd h.nx (w.heap.size, 0, 0)) (first ++ (.fn (.yield h.nx) [] [] :: cap)) (us ++ #[Value.func (.yield w.heap.size) #[] #[]] ++ vs).toList := by
    rw [show us ++ #[Value.func (.yield w.heap.size) #[] #[]] ++ vs = us ++ (#[Value.func (.yield w.heap.size) #[] #[]] ++ vs) from Array.append_assoc ..]
    refine VRs.appK (h1.ext hx) ?_
    rw [Array.toList_append]
    exact .cons _ _ _ _ (.yield _ _ _ hnew) (h2.ext hx)
  split at e3
  · rename_i v h2' hc
    obtain ⟨c1, c2⟩ := hih _ _ hc _ _ _ r1 hargs
    refine ⟨w.heap.size, w.alloc (.loop lo), { target := .fn (.func gf) vs, args := us ++ #[.func (.yield w.heap.size) #[] #[]] }, gf, _, rfl, ?_, c1 _ _, ?_⟩
    · rw [rangeCall, resolve_value hg]
      simp [Act.eval]
    · have c3 := c2 (n - 1)
      rw [Array.toArray_toList] at c3
      have c4 : CallsIn (Fro ro) (n - 1) P gf _ (w.alloc (.loop lo)) _ := c3
      refine c4.mono fun e' w' hb => ?_
      obtain ⟨u, φ2, rfl, b1, b2, b3⟩ := hb
      obtain ⟨st, pend, lf, ps', as', bd', df, g', z, lo', d', g1, g2, g3, g4, g5, g6, g7, g8, g9, g10, g11⟩ := loopK_some b2 e3
      have hl : φ2 h.nx = some (w.heap.size, 0, 0) := b3.ext _ _ hnew
      rw [hl] at g3
      cases g3
      have hS := r2.trans b3
      have key : ∀ (hst : st ≠ .busy), (setHK none h2' h.nx (.loop .exhausted pend lf ps' as' bd' df) fun h3 => match pend with
          | none => some (.code .normal ds fr h3)
          | some c => ih (.code rd ds c fr h3)) = some (.code e ds' fr' h') → rangePost (Fro ro) n P w.heap.size Q a' (.returned u) w' := by
        intro hst hk
        obtain ⟨h3, k1, k2, k3, k4⟩ := setLoop_some (P := P) b2 g1 hl g4 g7 g8 g9 g10 g11 hk
        have hs2 := hS.trans k3
        refine ⟨pend, { w' with heap := w'.heap.setIfInBounds w.heap.size (.loop { lo' with state := .exhausted, pending := pend }) }, ?_, ?_⟩
        · unfold Instr.endLoop
          simp only [Sem.run_bind, run_getLoop g4, Result.andThen]
          have hb : (lo'.state == LoopState.busy) = false := by
            rw [g5]
            cases st <;> first | rfl | exact absurd rfl hst
          rw [hb]
          simp only [Bool.false_eq_true, if_false]
          have hlo : ({ lo' with state := .exhausted } : Loop) = { lo' with state := .exhausted, pending := pend } := by rw [← g6]
          rw [hlo]
          simp only [Sem.run_bind, Sem.run_pure, Result.andThen, k4, g6]
        · cases pend with
          | none =>
            cases k1
            exact hQ φ2 _ a' k2 hs2 (by rw [ht]; exact hF.ext hs2.ext) (hM.ext hs2.ext)
          | some c =>
            exact CodeOK.in (hih _ _ k1) k2 (by rw [ht]; exact hF.ext hs2.ext) (hM.ext hs2.ext) (hro.ext hs2.ext) fun φ3 w3 a3 m1 m2 m3 m4 => hQ φ3 w3 a3 m1 (hs2.trans m2) m3 m4
      cases st with
      | busy => cases g2
      | ready => exact key (by simp) g2
      | done => exact key (by simp) g2
      | exhausted => exact key (by simp) g2
  · cases e3
theorem code_range {ih : Task → Option Res} (hih : Sound P ih) {rd : Option Nat} {ds : List Nat} {g : Operand} {ps : Array Tmp} {as bd : Code} {res : Res} (he : rangeK ih rd ds g ps.toList as bd fr h = some res) : TaskOK P (.code rd ds (.rangeFunc g ps as bd) fr h) res := by
  cases res with
  | val => trivial
  | code e ds' fr' h' =>
    refine CodeOK.of (by simp) fun φ w a ro n Q k1 k2 k3 k4 k5 => ?_
    obtain ⟨gv, h1, h2⟩ := evalK_some he k2
    split at h1
    · rename_i gf first cap
      generalize hv : a.eval g = v at h2
      cases h2 with
      | fn _ _ _ us vs e1 e2 =>
      refine wpIn_rangeFunc fun fn _ => ?_
      cases rd with
      | none =>
        cases ro with
        | some l => exact k4.elim
        | none =>
          obtain ⟨h1', f1, f2, f3⟩ := newHK_some h1
          have hx := Phi.upd_ext (p := (w.heap.size, 0, 0)) k1.fresh
          obtain ⟨r1, r2⟩ := k1.new_ (h' := h1') (z := 0) (w' := w.alloc (.deferred (some []))) (o := .deferred (some [])) (ao := .deferred) f1 rfl f2 rfl rfl rfl rfl
          have hnew : (φ.upd h.nx (w.heap.size, 0, 0)) h.nx = some (w.heap.size, 0, 0) := Phi.upd_same _ _
          obtain ⟨l, w₁, d, f, args, j1, j2, j3, j4⟩ := goK_some hih f3 r1 (k2.ext hx) hnew hv (e1.ext hx) (e2.ext hx) (n := n) (Q := Q) (a' := { a with defers := [{ target := .collected w.heap.size, args := #[] }] ++ a.defers }) rfl ⟨⟨_, _, hnew, rfl⟩, k3.ext hx⟩ (ro := none) trivial fn w
            fun φ' w' a'' m1 m2 m3 m4 => k5 φ' w' a'' m1 (r2.trans m2) m3 m4
          refine ⟨l, [{ target := .collected w.heap.size, args := #[] }], w₁, d, w₁, f, args, w₁, ?_, j2, fun _ _ => trivial, j3, (fun h => by cases h), j4⟩
          unfold Instr.enterLoop
          have hn : (newObj (.deferred (some []))).run P w = .ok w.heap.size (w.alloc (.deferred (some []))) := rfl
          simp only [Fro, Sem.run_bind, Sem.run_pure, Result.andThen, hn, j1]
      | some l0 =>
        cases ro with
        | none => exact k4.elim
        | some l =>
          obtain ⟨dd, hl0⟩ := k4
          obtain ⟨st, pend, lf, ps', as', bd', df, g', z, lo', d', g1, g2, g3, g4, g5, g6, g7, g8, g9, g10, g11⟩ := loopK_some k1 h1
          rw [hl0] at g3
          cases g3
          obtain ⟨l', w₁, d, f, args, j1, j2, j3, j4⟩ := goK_some hih g2 k1 k2 g11 hv e1 e2 (n := n) (Q := Q) (a' := { a with defers := [] ++ a.defers }) rfl k3 (ro := some l) ⟨_, hl0⟩ fn w k5
          refine ⟨l', [], w₁, d, w₁, f, args, w₁, ?_, j2, fun _ _ => trivial, j3, (fun h => by cases h), j4⟩
          unfold Instr.enterLoop
          simp only [Fro, Sem.run_bind, Sem.run_pure, Result.andThen, run_getLoop g4, j1]
    · cases h1
end
end Go.Proofs.YtibmpjhffeinoaaGreat.Kx

namespace Go.Proofs.YtibmpjhffeinoaaGreat.Kx
open Go
variable [Val] [Bet]

noncomputable section
variable {X : Exe} {E : Env} {P : Program} {φ : Phi} {h : AH} {w : World} {fr : AF} {a : Act} {β : Type} {r : β}

omit [Bet] in
theorem putsK_some (ps : List Nat) : ∀ {fr : AF} {xs : List AV} {us : List Value} {tmps : Array Value} {k : AF → Option β}, VRs φ xs us → FR φ fr tmps → putsK ps fr xs k = some r →
    ps.length = us.length ∧ ∃ fr', k fr' = some r ∧ FR φ fr' ((ps.zip us).foldl (fun tmps (p : Nat × Value) => tmps.setIfInBounds p.1 p.2) tmps) := by
  induction ps with
  | nil =>
    intro fr xs us tmps k hx hF he
    cases hx with
    | nil => exact ⟨rfl, fr, he, hF⟩
    | cons => cases he
  | cons p ps ih =>
    intro fr xs us tmps k hx hF he
    cases hx with
    | nil => cases he
    | cons x v xs vs h1 h2 =>
      have he' : putK none fr (some p) x (fun fr => putsK ps fr xs k) = some r := he
      obtain ⟨fr1, h3, h4⟩ := putK_some (a := { tmps := tmps, defers := [] }) he' hF h1
      obtain ⟨h5, fr2, h6, h7⟩ := ih h2 h4 h3
      exact ⟨by simp [h5], fr2, h6, h7⟩
omit [Val] [Bet] in
theorem zip_foldl (ps : Array Tmp) (us : Array Value) (T : Array Value) : (ps.zip us).foldl (fun tmps (t, a) => tmps.setIfInBounds t a) T = (ps.toList.zip us.toList).foldl (fun tmps (p : Nat × Value) => tmps.setIfInBounds p.1 p.2) T := by
  rw [← Array.foldl_toList, Array.toList_zip]
omit [Val] [Bet] in
theorem endRound_run {g : Nat} {lo : Loop} (hg : w.heap[g]? = some (.loop lo)) (jump : Option Code) (st' : LoopState) (b : Bool) (hb : jump.isNone = b) (hst : (if b then LoopState.ready else .done) = st') {w' : World}
    (hs : (setObj g (.loop { lo with state := st', pending := jump })).run P w = .ok () w') : (Instr.endRound g jump).run P w = .ok (.bool b) w' := by
  subst hst
  subst hb
  unfold Instr.endRound
  simp only [Sem.run_bind, run_getLoop hg, Result.andThen, hs, Sem.run_pure]
theorem doneK_some (hR : R φ h w) {i g df : Nat} {z d : Nat × Nat} {ao : AO} {lo : Loop} {st : LoopState} {pend : Option Code} {lf : AF} {ps : List Nat} {as bd : Code} {e : AEx} {v : AV} {h' : AH} {Rr : Ending → World → Prop}
    (hi : h.get i = some ao) (hp : φ i = some (g, z)) (hg : w.heap[g]? = some (.loop lo)) (e3 : FR φ lf lo.tmps) (e4 : lo.params.toList = ps) (e5 : lo.assign = as) (e6 : lo.body = bd) (e7 : φ df = some (lo.defers, d))
    (he : doneK i e h st pend lf ps as bd df = some (.val v h')) (hq : ∀ u w', VR φ v u → R φ h' w' → St φ h w φ h' w' → Rr (.returned u) w') : roundPost P g Rr e.exit' a w := by
  cases e with
  | normal =>
    have he' : setHK none h i (.loop .ready none lf ps as bd df) (fun h4 => some (Res.val (.bool true) h4)) = some (Res.val v h') := he
    obtain ⟨h5, u1, u2, u3, u4⟩ := setLoop_some (P := P) hR hi hp hg e3 e4 e5 e6 e7 he'
    simp only [Option.some.injEq, Res.val.injEq] at u1
    obtain ⟨rfl, rfl⟩ := u1
    have hx : VR φ (.bool true) (.bool true) := .bool true
    exact ⟨_, _, endRound_run hg none .ready true rfl rfl u4, hq _ _ hx u2 u3⟩
  | ret =>
    have he' : setHK none h i (.loop .done (some .ret) lf ps as bd df) (fun h4 => some (Res.val (.bool false) h4)) = some (Res.val v h') := he
    obtain ⟨h5, u1, u2, u3, u4⟩ := setLoop_some (P := P) hR hi hp hg e3 e4 e5 e6 e7 he'
    simp only [Option.some.injEq, Res.val.injEq] at u1
    obtain ⟨rfl, rfl⟩ := u1
    have hx : VR φ (.bool false) (.bool false) := .bool false
    exact ⟨_, _, endRound_run hg (some .ret) .done false rfl rfl u4, hq _ _ hx u2 u3⟩
  | exit id =>
    have he' : setHK none h i (.loop .done (some (.exit id)) lf ps as bd df) (fun h4 => some (Res.val (.bool false) h4)) = some (Res.val v h') := he
    obtain ⟨h5, u1, u2, u3, u4⟩ := setLoop_some (P := P) hR hi hp hg e3 e4 e5 e6 e7 he'
    simp only [Option.some.injEq, Res.val.injEq] at u1
    obtain ⟨rfl, rfl⟩ := u1
    have hx : VR φ (.bool false) (.bool false) := .bool false
    exact ⟨_, _, endRound_run hg (some (.exit id)) .done false rfl rfl u4, hq _ _ hx u2 u3⟩
theorem call_yield {ih : Task → Option Res} (hih : Sound P ih) {i : Nat} {args : List AV} {res : Res} (he : yieldK ih i args h = some res) : TaskOK P (.call (.yield i) args h) res := by
  cases res with
  | code => trivial
  | val v h' =>
    intro φ w us hR hx
    obtain ⟨st, pend, lf, ps, as, bd, df, g, z, lo, d, g1, g2, g3, g4, g5, g6, g7, g8, g9, g10, g11⟩ := loopK_some hR he
    obtain ⟨hlen, fr1, k1, k2⟩ := putsK_some ps hx g7 g2
    have hsz : us.toArray.size = lo.params.size := by rw [List.size_toArray, ← hlen, ← g8, Array.length_toList]
    refine ⟨g, z, lo.fn, (lo.params.zip us.toArray).foldl (fun tmps (t, a) => tmps.setIfInBounds t a) lo.tmps, lo.assign, lo.body, g3, ?_, fun n => ?_⟩
    · unfold Instr.yield
      simp only [Sem.run_bind, run_getLoop g4, Result.andThen]
      rw [if_neg (by rw [hsz]; simp)]
      rfl
    · refine roundIn_of_wpIn (F := Fro none) trivial ?_
      rw [zip_foldl, g8]
      split at k1
      · rename_i fr2 h1 hc
        rw [g9]
        refine CodeOK.in (ro := some g) (hih _ _ hc) hR k2 trivial ⟨z, g3⟩ fun φ1 w1 a1 m1 m2 m3 m4 => ?_
        show ∃ w₂, (Instr.beginRound g).run P w1 = .ok () w₂ ∧ _
        obtain ⟨st1, pend1, lf1, ps1, as1, bd1, df1, g', z', lo1, d1, q1, q2, q3, q4, q5, q6, q7, q8, q9, q10, q11⟩ := loopK_some m1 k1
        have hp1 := m2.ext _ _ g3
        rw [hp1] at q3
        cases q3
        unfold roundK at q2
        split at q2
        · obtain ⟨h2, s1, s2, s3, s4⟩ := setLoop_some (P := P) m1 q1 hp1 q4 q7 q8 q9 q10 q11 q2
          have hlo : ({ lo1 with state := .busy } : Loop) = { lo1 with state := .busy, pending := pend1 } := by rw [← q6]
          refine ⟨{ w1 with heap := w1.heap.setIfInBounds g (.loop { lo1 with state := .busy, pending := pend1 }) }, ?_, ?_⟩
          rotate_left
          · rw [g10]
            split at s1
            · rename_i e3 fr3 h3 hc3
              refine CodeOK.in (ro := some g) (hih _ _ hc3) s2 (m3.ext s3.ext) m4 ⟨z, s3.ext _ _ hp1⟩ fun φ3 w3 a3 n1 n2 n3 n4 => ?_
              obtain ⟨st4, pend4, lf4, ps4, as4, bd4, df4, g4', z4, lo4, d4, t1, t2, t3, t4, t5, t6, t7, t8, t9, t10, t11⟩ := loopK_some n1 s1
              have hp3 := n2.ext _ _ (s3.ext _ _ hp1)
              rw [hp3] at t3
              cases t3
              have hS := (m2.trans s3).trans n2
              exact doneK_some n1 t1 hp3 t4 t7 t8 t9 t10 t11 t2 fun u w' u1 u2 u3 => ⟨u, φ3, rfl, u1, u2, hS.trans u3⟩
            · cases s1
          · unfold Instr.beginRound
            simp only [Sem.run_bind, run_getLoop q4, Result.andThen]
            rw [hlo]
            simp only [s4, q5]
            rfl
        · cases q2
      · cases k1

/-! ### Functions -/
omit [Bet] in
theorem putK_there {T : Array Value} {t : Nat} {x : AV} {v : Value} {k : AF → Option β} (he : putK none fr (some t) x k = some r) (hF : FR φ fr T) (hT : T[t]? = some v) (hx : VR φ x v) : t < fr.nt ∧ ∃ fr', k fr' = some r ∧ FR φ fr' T ∧ fr'.nt = fr.nt := by
  unfold putK at he
  simp only at he
  cases hb : Nat.blt t fr.nt with
  | false => rw [hb] at he; cases he
  | true =>
    rw [hb, ite_true_] at he
    obtain ⟨u, h1, h2⟩ := setK_some _ he
    refine ⟨blt_true hb, _, h2, ⟨hF.1, fun s y hy => ?_⟩, rfl⟩
    have h3 := h1 s
    rw [show u.get s = some y from hy] at h3
    by_cases e : s = t
    · rw [if_pos e] at h3; cases h3; rw [e]; exact ⟨v, hT, hx⟩
    · rw [if_neg e] at h3; exact hF.2 s y h3.symm
omit [Val] [Bet] in
theorem argsK_le {nt : Nat} (xs : List AV) : ∀ {n : Nat} {fr : AF} {k : AF → Option β}, argsK nt xs n fr k = some r → xs = [] ∨ n + xs.length ≤ fr.nt := by
  induction xs with
  | nil => intro n fr k _; exact .inl rfl
  | cons x xs ih =>
    intro n fr k he
    right
    have he' : putK none fr (some n) x (fun fr => natK (Nat.succ n) fun n => argsK nt xs n fr k) = some r := he
    unfold putK at he'
    simp only at he'
    cases hb : Nat.blt n fr.nt with
    | false => rw [hb] at he'; cases he'
    | true =>
      rw [hb, ite_true_] at he'
      obtain ⟨u, h1, h2⟩ := setK_some _ he'
      rw [natK_eq] at h2
      have hlt := blt_true hb
      rcases ih h2 with rfl | h3
      · simp only [List.length_cons, List.length_nil]; omega
      · simp only [List.length_cons] at *
        omega
omit [Bet] in
theorem argsK_some {nt : Nat} {T : Array Value} (xs : List AV) : ∀ {us : List Value} {n : Nat} {fr : AF} {k : AF → Option β}, argsK nt xs n fr k = some r → VRs φ xs us → FR φ fr T → (∀ j v, us[j]? = some v → T[n + j]? = some v) → ∃ fr', k fr' = some r ∧ FR φ fr' T := by
  induction xs with
  | nil => intro us n fr k he _ hF _; exact ⟨fr, he, hF⟩
  | cons x xs ih =>
    intro us n fr k he hx hF hT
    cases hx with
    | cons _ v _ vs h1 h2 =>
      have he' : putK none fr (some n) x (fun fr => natK (Nat.succ n) fun n => argsK nt xs n fr k) = some r := he
      obtain ⟨_, fr', h3, h4, _⟩ := putK_there he' hF (by simpa using hT 0 v rfl) h1
      rw [natK_eq] at h3
      exact ih h3 h2 h4 fun j u hu => by
        have := hT (j + 1) u (by simpa using hu)
        rwa [show n + (j + 1) = n.succ + j from by omega] at this
/-- The functions that the executor knows. -/
def FnsOK (X : Exe) : Prop := ∀ f fi, X.fns.get f = some fi → ∃ fn, X.E.P.funcs[f]? = some fn ∧ fn.body = some fi.code.real ∧ fi.code.OK X.E.P ∧ fn.ntmps = fi.nt ∧ fn.results.toList = fi.results ∧ (fn.name == "runtime.NumGoroutine") = false
def PrimOK (X : Exe) : Prop := ∀ f args h v h', X.prim f args h = some (v, h') → CallOK X.E.P (.func f) args h v h'
omit [Val] [Bet] in
theorem callFunc_run {f : FuncId} {fn : Func} {c : Code} (hf : P.funcs[f]? = some fn) (hb : fn.body = some c) (hn : (fn.name == "runtime.NumGoroutine") = false) (u : Array Value) (w : World) : (callFunc f u).run P w = .ok (.enter f u) w := by
  unfold callFunc
  have hp : (program).run P w = .ok P w := rfl
  simp only [Sem.run_bind, hp, Result.andThen, hf, hn, hb]
  rfl
theorem call_func (HT : TabOK X.E) (HX : FnsOK X) (HP : PrimOK X) {ih : Task → Option Res} (hih : Sound X.E.P ih) {f : FuncId} {args : List AV} {res : Res} (he : funcK X ih f args h = some res) : TaskOK X.E.P (.call (.func f) args h) res := by
  unfold funcK at he
  split at he
  · rename_i v h' hp
    cases he
    exact HP _ _ _ _ _ hp
  · cases res with
    | code e ds fr h' => trivial
    | val v h' =>
    obtain ⟨fi, h1, h2⟩ := getK_some he
    obtain ⟨fn, f1, f2, f2', f3, f4, f5⟩ := HX _ _ h1
    intro φ w us hR hx
    refine ⟨callFunc_run f1 f2 f5, fun n => ?_⟩
    refine callsIn_of_wp_marks f1 f2 trivial ?_
    rw [f3]
    have hle := argsK_le _ h2
    have hT : (us.toArray ++ Array.replicate (fi.nt - us.toArray.size) undef).size = fi.nt := by
      have hl := hx.length
      rw [Array.size_append, Array.size_replicate, List.size_toArray]
      rcases hle with rfl | hle
      · simp at hl; rw [← hl]; simp
      · simp only at hle; omega
    obtain ⟨fr', k1, k2⟩ := argsK_some (φ := φ) (T := us.toArray ++ Array.replicate (fi.nt - us.toArray.size) undef) args h2 hx ⟨hT, fun t x hx => by simp [Tr.get] at hx⟩ fun j v hv => by
      rw [Nat.zero_add, Array.getElem?_append_left (by rw [List.size_toArray]; exact (List.getElem?_eq_some_iff.1 hv).1)]
      simpa using hv
    split at k1
    · rename_i e ds fr2 h2' hc
      have fin : ∀ (hne : e = .normal ∨ e = .ret), (shutK ds h2' fun h'' => resultsK X.E fi.results fr2 h'' fun xs => tupK xs fun v => some (Res.val v h'')) = some (.val v h') →
          fi.code.real.wpIn (Fro none) n X.E.P (bodyPostM (Fro none) n X.E.P fn (Back φ h w v h')) { tmps := us.toArray ++ Array.replicate (fi.nt - us.toArray.size) undef, defers := [] } w := by
        intro hne hs
        refine CodeOK.in (ro := none) ((hih _ _ hc) f2') hR k2 trivial trivial fun φ2 w2 a2 m1 m2 m3 m4 => ?_
        have hl : LeavesInM (Fro none) n X.E.P fn a2.tmps (Back φ h w v h') a2.defers .returning w2 := by
          refine shutK_some ds _ φ2 h2' w2 _ m1 m4 hs fun h3 w3 e1 e2 e3 => ?_
          obtain ⟨xs, vs, q1, q2, q3⟩ := resultsK_some HT e2 m3 fi.results e1
          obtain ⟨v', q4, q5⟩ := tupK_some q2 q1
          cases q4
          rw [← f4] at q3
          exact ⟨_, run_results q3, _, φ2, rfl, q5, e2, m2.trans e3⟩
        rcases hne with rfl | rfl
        · exact hl
        · exact hl
      split at k1
      · cases k1
      · rename_i hne
        cases e with
        | exit id => exact absurd rfl (hne id)
        | normal => exact fin (.inl rfl) k1
        | ret => exact fin (.inr rfl) k1
    · cases k1
/-! ### A step, and all steps -/
theorem stepK_sound (HT : TabOK X.E) (HK : KeysOK X.E) (HX : FnsOK X) (HP : PrimOK X) (HD : DrawOK X) {ih : Task → Option Res} (hih : Sound X.E.P ih) : Sound X.E.P (stepK X ih) := by
  intro t res he
  cases t with
  | call f args h =>
    cases f with
    | func f => exact call_func HT HX HP hih he
    | yield i => exact call_yield hih he
  | xcode rd ds c fr h =>
    cases c
    case plain c =>
      have := hih _ _ he
      cases res with
      | val => trivial
      | code => exact fun _ => this
    case seq c c' => exact xcode_seq hih he
    case cond o c c' => exact xcode_cond hih he
    case block id c => exact xcode_block hih he
    case loop c => exact xcode_loop hih he
    case scope c => exact xcode_scope hih he
    case cut l g =>
      have he' : (match g rd ds fr h with
        | some (fr', h') => some (Res.code .normal ds fr' h')
        | none => none) = some res := he
      split at he'
      · rename_i fr' h' hg
        cases he'
        exact fun hok => hok _ _ _ _ _ _ hg
      · cases he'
  | code rd ds c fr h =>
    cases c <;> try (cases he; done)
    case skip => cases he; exact CodeOK.of (by simp) fun φ w a ro n Q k1 k2 k3 k4 k5 => wpIn_skip (k5 φ w a k1 (.refl _ _ _) k2 k3)
    case label l => cases he; exact CodeOK.of (by simp) fun φ w a ro n Q k1 k2 k3 k4 k5 => wpIn_label (k5 φ w a k1 (.refl _ _ _) k2 k3)
    case exit id => cases he; exact CodeOK.of (by simp) fun φ w a ro n Q k1 k2 k3 k4 k5 => wpIn_exit (k5 φ w a k1 (.refl _ _ _) k2 k3)
    case ret => cases he; exact CodeOK.of (by simp) fun φ w a ro n Q k1 k2 k3 k4 k5 => wpIn_ret (k5 φ w a k1 (.refl _ _ _) k2 k3)
    case seq c c' => exact code_seq hih he
    case cond o c c' => exact code_cond hih he
    case block id c => exact code_block hih he
    case loop c => exact code_loop hih he
    case scope c => exact code_scope hih he
    case rangeFunc g ps as bd => exact code_range hih he
    case region id ops draw =>
      cases res with
      | val => trivial
      | code e ds' fr' h' =>
      refine CodeOK.of (by simp) fun φ w a ro n Q k1 k2 k3 k4 k5 => ?_
      cases draw with
      | false =>
        refine wpIn_region ?_
        rw [List.range_eq_range', show ops.size = ops.toList.length from (Array.length_toList).symm]
        refine seqOps_some HT HK hih ops ops.toList 0 φ w fr h a _ ro n Q rfl he k1 k2 fun fr1 h1 φ1 w1 a1 m1 m2 m3 m4 m5 => ?_
        cases m1
        exact k5 φ1 w1 a1 m2 m3 m4 (by rw [m5]; exact k3.ext m3.ext)
      | true =>
        refine HD ih hih id ops fr h _ _ he φ w a ro n Q k1 k2 fun fr1 h1 φ1 w1 a1 m1 m2 m3 m4 m5 => ?_
        cases m1
        exact k5 φ1 w1 a1 m2 m3 m4 (by rw [m5]; exact k3.ext m3.ext)
theorem run_sound (HT : TabOK X.E) (HK : KeysOK X.E) (HX : FnsOK X) (HP : PrimOK X) (HD : DrawOK X) : ∀ n, Sound X.E.P (run X n) := by
  intro n
  induction n with
  | zero => intro t r he; cases he
  | succ n ih => exact stepK_sound HT HK HX HP HD ih
end
end Go.Proofs.YtibmpjhffeinoaaGreat.Kx
