/-
  Forms and oracles told by few words.
-/
import Derived.Test.YtibmpjhffeinoaaGreatPa
namespace Go.Proofs.YtibmpjhffeinoaaGreat.Kx
open Go Go.RowKit

noncomputable section
/-- Gaps, and how often. -/
abbrev Co := List (Nat × Int)
/-- The list of all numbers up to the last one that is there. -/
def dn (B : List (Int × Int)) : Co → List (Int × Int × Int) := List.rec (motive := fun _ => Co → List (Int × Int × Int)) (fun _ => []) (fun b _ ih co => List.rec (motive := fun _ => List (Int × Int × Int)) [] (fun q co' _ => Nat.rec (motive := fun _ => List (Int × Int × Int)) ((q.2, b.1, b.2) :: ih co') (fun g _ => (0, b.1, b.2) :: ih ((g, q.2) :: co')) q.1) co) B
def fit (B : List (Int × Int)) : Co → Bool := List.rec (motive := fun _ => Co → Bool) (fun co => List.rec true (fun _ _ _ => false) co) (fun _ _ ih co => List.rec (motive := fun _ => Bool) true (fun q co' _ => Nat.rec (motive := fun _ => Bool) (ih co') (fun g _ => ih ((g, q.2) :: co')) q.1) co) B
def fo (B : List (Int × Int)) (c : Int) (co : Co) : AV := .lin .i64 c (dn B co)
/-- A form: a number; a number of the list; a number less one; ten times one less one; two together; any one. -/
inductive Fo where
  | n (c : Int)
  | s (i : Nat)
  | m (c : Int) (i : Nat)
  | t (i j : Nat)
  | a (i j : Nat)
  | g (c : Int) (co : Co)
def Fo.av (B : List (Int × Int)) (x : Fo) : AV := match x with
  | .n c => .int .i64 c
  | .s i => fo B 0 [(i, 1)]
  | .m c i => fo B c [(i, -1)]
  | .t i j => ite_ (Nat.blt i j) (fo B 0 [(i, 10), (Nat.sub (Nat.sub j i) 1, -1)]) (fo B 0 [(j, -1), (Nat.sub (Nat.sub i j) 1, 10)])
  | .a i j => fo B 0 [(i, 1), (Nat.sub (Nat.sub j i) 1, 1)]
  | .g c co => fo B c co
def Fo.ok (B : List (Int × Int)) (x : Fo) : Bool := match x with
  | .n _ => true
  | .s i => fit B [(i, 1)]
  | .m _ i => fit B [(i, -1)]
  | .t i j => ite_ (Nat.blt i j) (fit B [(i, 10), (Nat.sub (Nat.sub j i) 1, -1)]) (ite_ (Nat.blt j i) (fit B [(j, -1), (Nat.sub (Nat.sub i j) 1, 10)]) false)
  | .a i j => ite_ (Nat.blt i j) (fit B [(i, 1), (Nat.sub (Nat.sub j i) 1, 1)]) false
  | .g _ co => fit B co
section
variable [Val]
def gS : Co → Nat → Int
  | [], _ => 0
  | q :: co, i => q.2 * Val.rho (i + q.1) + gS co (i + q.1 + 1)
theorem dn_S : ∀ (B : List (Int × Int)) (co : Co) (i : Nat), fit B co = true → linS (dn B co) i = gS co i
  | [], [], _, _ => rfl
  | [], _ :: _, _, h => by cases h
  | _ :: _, [], _, _ => rfl
  | b :: B, (0, k) :: co, i, h => by
    show k * Val.rho i + linS (dn B co) (i + 1) = k * Val.rho (i + 0) + gS co (i + 0 + 1)
    rw [dn_S B co (i + 1) h]
    rfl
  | b :: B, (g + 1, k) :: co, i, h => by
    show 0 * Val.rho i + linS (dn B ((g, k) :: co)) (i + 1) = k * Val.rho (i + (g + 1)) + gS co (i + (g + 1) + 1)
    rw [dn_S B ((g, k) :: co) (i + 1) h]
    show 0 * Val.rho i + (k * Val.rho (i + 1 + g) + gS co (i + 1 + g + 1)) = _
    rw [show i + 1 + g = i + (g + 1) from by omega]
    omega
theorem dn_B : ∀ (B : List (Int × Int)) (co : Co) (xs : List Int) (i : Nat), AllB B xs → (∀ j, j < xs.length → Val.rho (i + j) = nth xs j) → linB (dn B co) i
  | [], _, _, _, _, _ => trivial
  | _ :: _, [], _, _, _, _ => trivial
  | b :: B, _ :: _, [], _, h, _ => h.elim
  | b :: B, (0, k) :: co, x :: xs, i, h1, h2 => by
    have h0 : Val.rho i = x := h2 0 (by simp)
    refine ⟨?_, dn_B B co xs (i + 1) h1.2 fun j hj => ?_⟩
    · rw [h0]; exact h1.1
    · have := h2 (j + 1) (by simp; omega)
      rw [show i + 1 + j = i + (j + 1) from by omega]
      exact this
  | b :: B, (g + 1, k) :: co, x :: xs, i, h1, h2 => by
    have h0 : Val.rho i = x := h2 0 (by simp)
    refine ⟨?_, dn_B B ((g, k) :: co) xs (i + 1) h1.2 fun j hj => ?_⟩
    · rw [h0]; exact h1.1
    · have := h2 (j + 1) (by simp; omega)
      rw [show i + 1 + j = i + (j + 1) from by omega]
      exact this
def Fo.v (x : Fo) : Int := match x with
  | .n c => c
  | .s i => Val.rho i
  | .m c i => c - Val.rho i
  | .t i j => 10 * Val.rho i - Val.rho j
  | .a i j => Val.rho j + Val.rho i
  | .g c co => c + gS co 0
theorem fo_num {B : List (Int × Int)} {c : Int} {co : Co} (h : fit B co = true) : numA (fo B c co) = c + gS co 0 := by
  show c + linS (dn B co) 0 = _
  rw [dn_S B co 0 h]
theorem Fo.num {B : List (Int × Int)} {x : Fo} (h : x.ok B = true) : numA (x.av B) = x.v := by
  cases x with
  | n c => rfl
  | s i =>
    show numA (fo B 0 [(i, 1)]) = Val.rho i
    rw [fo_num h]
    show 0 + (1 * Val.rho (0 + i) + 0) = Val.rho i
    rw [Nat.zero_add]
    omega
  | m c i =>
    show numA (fo B c [(i, -1)]) = c - Val.rho i
    rw [fo_num h]
    show c + (-1 * Val.rho (0 + i) + 0) = c - Val.rho i
    rw [Nat.zero_add]
    omega
  | t i j =>
    unfold Fo.av
    have h' : ite_ (Nat.blt i j) (fit B [(i, 10), (Nat.sub (Nat.sub j i) 1, -1)]) (ite_ (Nat.blt j i) (fit B [(j, -1), (Nat.sub (Nat.sub i j) 1, 10)]) false) = true := h
    show numA (ite_ _ _ _) = 10 * Val.rho i - Val.rho j
    cases hb : Nat.blt i j with
    | true =>
      rw [hb, ite_true_] at h'
      rw [ite_true_, fo_num h']
      have hij := blt_true hb
      show 0 + (10 * Val.rho (0 + i) + (-1 * Val.rho (0 + i + 1 + (j - i - 1)) + 0)) = _
      rw [Nat.zero_add, show i + 1 + (j - i - 1) = j from by omega]
      omega
    | false =>
      rw [hb, ite_false_] at h'
      obtain ⟨h1, h2⟩ := ite_and h'
      rw [ite_false_, fo_num h2]
      have hij := blt_true h1
      show 0 + (-1 * Val.rho (0 + j) + (10 * Val.rho (0 + j + 1 + (i - j - 1)) + 0)) = _
      rw [Nat.zero_add, show j + 1 + (i - j - 1) = i from by omega]
      omega
  | a i j =>
    obtain ⟨h1, h2⟩ := ite_and h
    have hij := blt_true h1
    show numA (fo B 0 [(i, 1), (Nat.sub (Nat.sub j i) 1, 1)]) = Val.rho j + Val.rho i
    rw [fo_num h2]
    show 0 + (1 * Val.rho (0 + i) + (1 * Val.rho (0 + i + 1 + (j - i - 1)) + 0)) = _
    rw [Nat.zero_add, show i + 1 + (j - i - 1) = j from by omega]
    omega
  | g c co => exact fo_num h
omit [Val] in
theorem Fo.i64 {B : List (Int × Int)} (x : Fo) : i64A (x.av B) = true := by
  cases x with
  | t i j =>
    show i64A (ite_ _ _ _) = true
    cases Nat.blt i j <;> rfl
  | _ => rfl
theorem Fo.bnd {B : List (Int × Int)} {xs : List Int} (h1 : AllB B xs) (h2 : ∀ j, j < xs.length → Val.rho j = nth xs j) (x : Fo) : bndA (x.av B) := by
  have h : ∀ c co, bndA (fo B c co) := fun c co => dn_B B co xs 0 h1 fun j hj => by rw [Nat.zero_add]; exact h2 j hj
  cases x with
  | n c => trivial
  | t i j =>
    show bndA (ite_ _ _ _)
    cases Nat.blt i j
    · exact h _ _
    · exact h _ _
  | _ => exact h _ _
/-- An entry: the operation, two forms, and the third. -/
abbrev En := Nat × Fo × Fo × Fo
abbrev Ec := Nat × Fo × Fo × Bool
def enA (B : List (Int × Int)) (e : En) : Nat × AV × AV × AV := (e.1, e.2.1.av B, e.2.2.1.av B, e.2.2.2.av B)
def ecA (B : List (Int × Int)) (e : Ec) : Nat × AV × AV × AV := (e.1, e.2.1.av B, e.2.2.1.av B, .bool e.2.2.2)
def mapE (B : List (Int × Int)) (l : List En) (r : List (Nat × AV × AV × AV)) : List (Nat × AV × AV × AV) := List.rec r (fun e _ ih => enA B e :: ih) l
def mapC (B : List (Int × Int)) (l : List Ec) : List (Nat × AV × AV × AV) := List.rec [] (fun e _ ih => ecA B e :: ih) l
def okE (B : List (Int × Int)) (l : List En) : Bool := List.rec true (fun e _ ih => ite_ (e.2.1.ok B) (ite_ (e.2.2.1.ok B) (ite_ (e.2.2.2.ok B) ih false) false) false) l
def okC (B : List (Int × Int)) (l : List Ec) : Bool := List.rec true (fun e _ ih => ite_ (e.2.1.ok B) (ite_ (e.2.2.1.ok B) ih false) false) l
def In64 (u : Int) : Prop := -9223372036854775808 ≤ u ∧ u ≤ 9223372036854775807
def FactE (e : En) : Prop := match e.1 with
  | 0 => e.2.1.v + e.2.2.1.v = e.2.2.2.v ∧ In64 e.2.2.2.v
  | 2 => e.2.1.v * e.2.2.1.v = e.2.2.2.v ∧ In64 e.2.2.2.v
  | 100 => e.2.2.2.v = if e.2.2.1.v < e.2.1.v then e.2.2.1.v else e.2.1.v
  | 101 => e.2.2.2.v = if e.2.1.v < e.2.2.1.v then e.2.2.1.v else e.2.1.v
  | _ => False
def FactC (e : Ec) : Prop := match e.1, e.2.2.2 with
  | 4, false => e.2.1.v = e.2.2.1.v
  | 6, true => e.2.1.v ≤ e.2.2.1.v
  | _, _ => False
def FactsE : List En → Prop
  | [] => True
  | e :: l => FactE e ∧ FactsE l
def FactsC : List Ec → Prop
  | [] => True
  | e :: l => FactC e ∧ FactsC l
theorem orc_of {B : List (Int × Int)} {xs : List Int} {l : List En} {l2 : List Ec} (h1 : AllB B xs) (h2 : ∀ j, j < xs.length → Val.rho j = nth xs j) (k1 : okE B l = true) (k2 : okC B l2 = true) (f1 : FactsE l) (f2 : FactsC l2) : OrcOK (mapE B l (mapC B l2)) := by
  refine orcOK_of ?_
  induction l with
  | nil =>
    show ∀ e ∈ mapC B l2, OrcOne e
    clear f1 k1
    induction l2 with
    | nil => intro e he; cases he
    | cons x l2 ih =>
      have k2' : ite_ (x.2.1.ok B) (ite_ (x.2.2.1.ok B) (okC B l2) false) false = true := k2
      obtain ⟨a1, a2⟩ := ite_and k2'
      obtain ⟨a3, a4⟩ := ite_and a2
      intro e he
      cases he with
      | head =>
        obtain ⟨f, _⟩ := f2
        unfold FactC at f
        obtain ⟨c, x1, x2, b⟩ := x
        simp only at f
        split at f
        · exact orc_ne0 (Fo.i64 _) (Fo.i64 _) (Fo.num a1) (Fo.num a3) f
        · exact orc_le1 (Fo.i64 _) (Fo.i64 _) (Fo.num a1) (Fo.num a3) f
        · exact f.elim
      | tail _ he => exact ih a4 f2.2 e he
  | cons x l ih =>
    have k1' : ite_ (x.2.1.ok B) (ite_ (x.2.2.1.ok B) (ite_ (x.2.2.2.ok B) (okE B l) false) false) false = true := k1
    obtain ⟨a1, a2⟩ := ite_and k1'
    obtain ⟨a3, a4⟩ := ite_and a2
    obtain ⟨a5, a6⟩ := ite_and a4
    intro e he
    cases he with
    | head =>
      obtain ⟨f, _⟩ := f1
      unfold FactE at f
      obtain ⟨c, x1, x2, x3⟩ := x
      simp only at f
      split at f
      · exact orc_add (Fo.i64 _) (Fo.i64 _) (Fo.i64 _) (Fo.bnd h1 h2 _) (Fo.num a1) (Fo.num a3) (Fo.num a5) f.1 f.2.1 f.2.2
      · exact orc_mul (Fo.i64 _) (Fo.i64 _) (Fo.i64 _) (Fo.bnd h1 h2 _) (Fo.num a1) (Fo.num a3) (Fo.num a5) f.1 f.2.1 f.2.2
      · exact orc_min (Fo.i64 _) (Fo.i64 _) (Fo.i64 _) (Fo.bnd h1 h2 _) (Fo.num a1) (Fo.num a3) (Fo.num a5) f
      · exact orc_max (Fo.i64 _) (Fo.i64 _) (Fo.i64 _) (Fo.bnd h1 h2 _) (Fo.num a1) (Fo.num a3) (Fo.num a5) f
      · exact f.elim
    | tail _ he => exact ih a6 f1.2 e he
end
/-- Rows of numbers of the list. -/
def sy (B : List (Int × Int)) (is : List Nat) : List AV := List.rec [] (fun i _ ih => fo B 0 [(i, 1)] :: ih) is
def fitA (B : List (Int × Int)) (is : List Nat) : Bool := List.rec true (fun i _ ih => ite_ (fit B [(i, 1)]) ih false) is
def EqR (V1 V2 : Val) : List Nat → List Nat → Prop
  | [], [] => True
  | i :: is, j :: js => @Val.rho V1 i = @Val.rho V2 j ∧ EqR V1 V2 is js
  | _, _ => False
theorem imps_sy {V1 V2 : Val} {B1 B2 : List (Int × Int)} {xs : List Int} (h1 : AllB B2 xs) (h2 : ∀ j, j < xs.length → @Val.rho V2 j = nth xs j) : ∀ {is js : List Nat}, fitA B1 is = true → fitA B2 js = true → EqR V1 V2 is js → Imps V1 V2 (sy B1 is) (sy B2 js)
  | [], [], _, _, _ => trivial
  | i :: is, j :: js, k1, k2, h => by
    have k1' : ite_ (fit B1 [(i, 1)]) (fitA B1 is) false = true := k1
    have k2' : ite_ (fit B2 [(j, 1)]) (fitA B2 js) false = true := k2
    obtain ⟨a1, a2⟩ := ite_and k1'
    obtain ⟨a3, a4⟩ := ite_and k2'
    refine ⟨Imp.num rfl rfl (@Fo.bnd V2 _ _ h1 h2 (.s j)) ?_, imps_sy h1 h2 a2 a4 h.2⟩
    have e1 := @Fo.num V1 B1 (.s i) a1
    have e2 := @Fo.num V2 B2 (.s j) a3
    exact e1.trans (h.1.trans e2.symm)
  | [], _ :: _, _, _, h => h.elim
  | _ :: _, [], _, _, h => h.elim
def EqV [Val] : List Nat → List Int → Prop
  | [], [] => True
  | i :: is, n :: ns => n = Val.rho i ∧ EqV is ns
  | _, _ => False
theorem vrs_sy [Val] {φ : Phi} {B : List (Int × Int)} {xs : List Int} (h1 : AllB B xs) (h2 : ∀ j, j < xs.length → Val.rho j = nth xs j) : ∀ {is : List Nat} {ns : List Int}, fitA B is = true → EqV is ns → VRs φ (sy B is) (ns.map (Value.int .i64))
  | [], [], _, _ => .nil
  | i :: is, n :: ns, k, h => by
    have k' : ite_ (fit B [(i, 1)]) (fitA B is) false = true := k
    obtain ⟨a1, a2⟩ := ite_and k'
    exact .cons _ _ _ _ (numA_VR (z := (Fo.s i).av B) rfl (Fo.bnd h1 h2 (.s i)) (h.1.trans (Fo.num (x := .s i) a1).symm)) (vrs_sy h1 h2 a2 h.2)
  | [], _ :: _, _, h => h.elim
  | _ :: _, [], _, h => h.elim
theorem sqle2 {t s C v w : Int} (h1 : t = C - v * v) (h2 : s = C - w * w) (h0 : 0 ≤ w) (h : w ≤ v) : t ≤ s := by
  have : w * w ≤ v * v := Int.mul_le_mul h h h0 (by omega)
  omega
theorem in64 {u b : Int} (h : 0 ≤ u ∧ u ≤ b) (hb : b ≤ 9223372036854775807) : In64 u := ⟨by omega, by omega⟩
end
end Go.Proofs.YtibmpjhffeinoaaGreat.Kx
