/-
  The program: Bad, rests, Rests.
-/
import Derived.Test.YtloibnmhgocboaaF3
import Derived.Test.YtloibnmhgocboaaPR
namespace Go.Proofs.Ytloibnmhgocboaa
open Go.RowKit Go.Shelf

def intV : Option Value → Int
  | some (.int _ x) => x
  | _ => 0
def boolN : Value → Nat
  | .bool true => 1
  | _ => 0
def muW (w : World) (g f : Nat) : Nat := mu ((List.range f).map fun j => intV (w.cell? ⟨g, j, none⟩))
theorem muW_of {w : World} {base g f c : Nat} {L : List Int} (h : Oi w base (some ⟨g, 0, none⟩) f c L) : muW w g f = mu L := by
  unfold muW
  have hl := h.len
  have e : ((List.range f).map fun j => intV (w.cell? ⟨g, j, none⟩)) = L := List.ext_getElem (by simp [hl]) fun j h1 h2 => by
    have hj : j < f := by simpa using h1
    rw [List.getElem_map, List.getElem_range, h.cell hj]
    show nth L j = _
    rw [nth, List.getElem?_eq_getElem h2]
    rfl
  rw [e]
def sR (f k : Nat) : List Int := 0 :: (List.replicate k (-1) ++ List.replicate (f - 1 - k) 0)
theorem sR_zero {f : Nat} (hf : 1 ≤ f) : sR f 0 = List.replicate f 0 := by
  obtain ⟨m, rfl⟩ : ∃ m, f = m + 1 := ⟨f - 1, by omega⟩
  simp [sR, List.replicate_succ]
theorem sR_set {f k : Nat} (h : k + 1 < f) : (sR f k).set (k + 1) (-1) = sR f (k + 1) := by
  unfold sR
  obtain ⟨m, hm⟩ : ∃ m, f - 1 - k = m + 1 := ⟨f - 1 - k - 1, by omega⟩
  have hm2 : f - 1 - (k + 1) = m := by omega
  rw [hm, hm2, List.set_cons_succ, List.replicate_succ, List.replicate_succ', List.set_append_right _ _ (by simp)]
  simp
theorem sR_all (f : Nat) : sR f (f - 1) = startR f := by simp [sR, startR]

set_option maxRecDepth 100000 in
set_option maxHeartbeats 8000000 in
theorem dRests (g0 m N : Nat) (A : Option Addr) (n c : Nat) (st cs : List Int) (ff : Int × Int → Option Int) (HG : Hid (Good cs)) (hnc : n ≤ c) (w : World) (ht : Till w g0 m N A n c st ff) (hx : Ri w w.heap.size A n cs) :
    Calls Try.prog 70 #[.pointer (some ⟨g0, 0, none⟩)] w fun e w' => ∃ (A' : Option Addr) (c' : Nat), e = .returned (.slice A' (first cs) c') ∧ Oi w' w.heap.size A' (first cs) c' (restsL cs) ∧ Below w.heap.size w w' := by
  have kg := ht.bk
  have hgl := kg.lt
  clear ht
  have HL := Lib.hid hx.len
  have hn1 : 1 ≤ n := by rw [← HL.out]; exact HG.out.lo
  have hn5 : n ≤ 5 := by rw [← HL.out]; exact HG.out.hi
  obtain ⟨f, HF⟩ : ∃ f, Hid (first cs = f) := ⟨_, Lib.hid rfl⟩
  have hfp := first_pos HG.out
  have HRS := Lib.hid (rinv_start HG.out)
  rw [HF.out] at hfp HRS ⊢
  obtain ⟨hf1, hf50, hff⟩ := hfp
  obtain ⟨ad, h, rfl, hadb, hc0, hh0, _⟩ := hx.at_ (k := 0) (by omega)
  rw [addr_zero] at hc0
  obtain rfl : h = f := by rw [hff]; exact (nth_some hh0.out).symm
  clear hh0 hff
  have k0 : w.cell? ⟨g0, 0, none⟩ = some (.slice (some ad) n c) := kg.cell 0
  have hfz : ((f : Int) == 0) = false := by simp; omega
  by_cases hf11 : f = 1
  · have hfle : f ≤ 1 := by omega
    clear hf11
    go_enter Try.func70, Try.ntmps70
    go_wp2_with (at_make; go_must (refine make_ints rfl (.tmp 19) (.tmp 19) rfl f _ rfl rfl rfl (by omega) ?_); go_must (intro w1 hr1 hb1; have k1 : w1.cell? ⟨g0, 0, none⟩ = some (.slice (some ad) n c) := (hb1.cell (p := ⟨g0, 0, none⟩) hgl).trans k0))
    go_loop [24] (fun i => i = .int .i64 0) (fun i => 1)
    case atStart => rfl
    case round =>
      subst hrel
      have hr1' : Oi w1 w.heap.size (some ⟨w.heap.size, 0, none⟩) f f (startR f) := by
        obtain rfl : f = 1 := by omega
        exact hr1
      go_wp2
      go_loopw [6] (fun ch wr => ∃ (L : List Int) (b : Bool), ch = .bool b ∧ Oi wr w.heap.size (some ⟨w.heap.size, 0, none⟩) f f L ∧ Hid (RInv cs L) ∧ Below w.heap.size w wr ∧ Hid (b = false → FixTo cs L f 0)) (fun ch wr => 2 * muW wr w.heap.size f + boolN ch)
      case atStart => exact ⟨startR f, true, rfl, hr1', HRS, hb1, Lib.hid (fun h => by cases h)⟩
      case round =>
        obtain ⟨L, b, rfl, ho1, HR1, hb1', HB1⟩ := hrel
        have HMU := Lib.hid (muW_of ho1)
        cases b
        · have HE : Hid (L = restsL cs) := Lib.hid (fix_rests HG.out HR1.out (by rw [HF.out]; exact HB1.out rfl))
          rw [HE.out] at ho1
          go_wp2
          go_ret
          exact ⟨_, _, rfl, ho1, hb1'⟩
        · go_wp2
          go_loopw [6, 35] (fun ch i wr => ∃ (L2 : List Int) (b2 : Bool) (k : Nat), k ≤ f ∧ i = .int .i64 k ∧ ch = .bool b2 ∧ Oi wr w.heap.size (some ⟨w.heap.size, 0, none⟩) f f L2 ∧ Hid (RInv cs L2) ∧ Below w.heap.size w wr ∧ Hid ((b2 = false → L2 = L ∧ FixTo cs L k 0) ∧ (b2 = true → mu L2 < mu L))) (fun _ i _ => f - (intOf i).toNat)
          case atStart => exact ⟨L, false, 0, Nat.zero_le _, rfl, rfl, ho1, HR1, hb1', Lib.hid ⟨fun _ => ⟨rfl, fun r hr h0 k h1 h2 h3 => by omega⟩, fun h => by cases h⟩⟩
          case round =>
            obtain ⟨L2, b2, k, hk, rfl, rfl, ho2, HR2, hb2, HB2⟩ := hrel
            by_cases hlt2 : k < f
            · have hcellk := ho2.cell hlt2
              obtain ⟨x, hxk⟩ : ∃ x, nth L2 k = x := ⟨_, rfl⟩
              have HXK := Lib.hid hxk
              rw [hxk] at hcellk
              clear hxk
              have kr : wr.cell? ⟨g0, 0, none⟩ = some (.slice (some ad) n c) := (hb2.cell (p := ⟨g0, 0, none⟩) hgl).trans k0
              by_cases hxn : x < 0
              · have HB4 : Hid ((b2 = false → L2 = L ∧ FixTo cs L (k + 1) 0) ∧ (b2 = true → mu L2 < mu L)) := Lib.hid ⟨fun h => ⟨(HB2.out.1 h).1, fun r hr h0 kk h1 h2 h3 => by
                  by_cases e : r = k
                  · subst e
                    rw [← (HB2.out.1 h).1, HXK.out] at h0
                    omega
                  · exact (HB2.out.1 h).2 r hr h0 kk h1 h2 (by omega)⟩, HB2.out.2⟩
                go_wp2
                go_roundw
                case rel => exact ⟨L2, b2, k + 1, by omega, by go_num, rfl, ho2, HR2, hb2, HB4⟩
                case measure => simp [intOf]; omega
              · have hx0 : 0 ≤ x := by omega
                by_cases hcc : c = 1
                · have hcle : c ≤ 1 := by omega
                  clear hcc
                  have hc1 : c ≤ 1 := hcle
                  go_wp2
                  go_loopw [6, 48] (fun ch i wr => ∃ (L3 : List Int) (b3 : Bool) (j : Nat), j ≤ n - 1 ∧ i = .int .i64 j ∧ ch = .bool b3 ∧ Oi wr w.heap.size (some ⟨w.heap.size, 0, none⟩) f f L3 ∧ Hid (RInv cs L3) ∧ Hid (nth L3 k = x) ∧ Below w.heap.size w wr ∧ Hid ((b3 = false → L3 = L ∧ FixTo cs L k (j + 1)) ∧ (b3 = true → mu L3 < mu L))) (fun _ i _ => n - (intOf i).toNat)
                  case atStart => exact ⟨L2, b2, 0, Nat.zero_le _, rfl, rfl, ho2, HR2, HXK, hb2, Lib.hid ⟨fun h => ⟨(HB2.out.1 h).1, fun r hr h0 kk h1 h2 h3 => (HB2.out.1 h).2 r hr h0 kk h1 h2 (by omega)⟩, HB2.out.2⟩⟩
                  case round =>
                    obtain ⟨L3, b3, j, hj, rfl, rfl, ho3, HR3, HX3, hb3, HB3⟩ := hrel
                    by_cases hlt3 : j < n - 1
                    · exfalso
                      omega
                    · have HB4 : Hid ((b3 = false → L3 = L ∧ FixTo cs L (k + 1) 0) ∧ (b3 = true → mu L3 < mu L)) := Lib.hid ⟨fun h => ⟨(HB3.out.1 h).1, fun r hr h0 kk h1 h2 h3 => (HB3.out.1 h).2 r hr h0 kk h1 h2 (by have := HL.out; omega)⟩, HB3.out.2⟩
                      go_wp2
                      go_roundw
                      case rel => exact ⟨L3, b3, k + 1, by omega, by go_num, rfl, ho3, HR3, hb3, HB4⟩
                      case measure => simp [intOf]; omega
                · skip
                  have hc1 : 1 < c := by omega
                  go_wp2
                  go_loopw [6, 48] (fun ch i wr => ∃ (L3 : List Int) (b3 : Bool) (j : Nat), j ≤ n - 1 ∧ i = .int .i64 j ∧ ch = .bool b3 ∧ Oi wr w.heap.size (some ⟨w.heap.size, 0, none⟩) f f L3 ∧ Hid (RInv cs L3) ∧ Hid (nth L3 k = x) ∧ Below w.heap.size w wr ∧ Hid ((b3 = false → L3 = L ∧ FixTo cs L k (j + 1)) ∧ (b3 = true → mu L3 < mu L))) (fun _ i _ => n - (intOf i).toNat)
                  case atStart => exact ⟨L2, b2, 0, Nat.zero_le _, rfl, rfl, ho2, HR2, HXK, hb2, Lib.hid ⟨fun h => ⟨(HB2.out.1 h).1, fun r hr h0 kk h1 h2 h3 => (HB2.out.1 h).2 r hr h0 kk h1 h2 (by omega)⟩, HB2.out.2⟩⟩
                  case round =>
                    obtain ⟨L3, b3, j, hj, rfl, rfl, ho3, HR3, HX3, hb3, HB3⟩ := hrel
                    by_cases hlt3 : j < n - 1
                    · obtain ⟨ad5, y, hA5, _, cy0, hyk, _⟩ := hx.at_ (k := j + 1) (by omega)
                      cases hA5
                      have hy1 := HG.out.pos y (List.mem_of_getElem? hyk.out)
                      have hy50 := (HG.out.all y (List.mem_of_getElem? hyk.out)).2
                      have HYJ : Hid (nth cs (j + 1) = y) := Lib.hid (nth_some hyk.out)
                      have hcy : wr.cell? ⟨ad.block, ad.off + 1 + j, none⟩ = some (.int .i64 y) := by rw [← add_succ]; exact (hb3.cell (by rw [addr_block]; exact hadb)).trans cy0
                      clear cy0
                      obtain ⟨t, HT⟩ : ∃ t : Nat, Hid ((x + y).toNat % f = t) := ⟨_, Lib.hid rfl⟩
                      have htf : t < f := by rw [← HT.out]; exact Nat.mod_lt _ (by omega)
                      have hxb := (HR3.out.bd HG.out (r := k) (by rw [HF.out]; exact hlt2)).2
                      rw [HX3.out] at hxb
                      have hmod : (x + y) % (f : Int) = t := by
                        have h1 : x + y = (((x + y).toNat : Nat) : Int) := by omega
                        rw [h1, ← HT.out]
                        exact (Int.natCast_emod _ _).symm
                      have hmodt : Int.tmod (x + y) (f : Int) = t := by rw [Int.tmod_eq_emod_of_nonneg (by omega)]; exact hmod
                      have hwt : IntKind.i64.wrap (t : Int) = t := IntWalk.i64_in _ (by omega)
                      have hwxy : IntKind.i64.wrap (x + y) = x + y := IntWalk.i64_in _ (by omega)
                      have hcell := ho3.cell htf
                      have hfr := ho3.frozen t
                      obtain ⟨u, hu⟩ : ∃ u, nth L3 t = u := ⟨_, rfl⟩
                      have HU := Lib.hid hu
                      rw [hu] at hcell
                      have hub := HR3.out.bd HG.out (r := t) (by rw [HF.out]; exact htf)
                      rw [hu] at hub
                      clear hu
                      have hstep : (u < 0 ∨ x + y < u) → Hid (RInv cs (L3.set t (x + y)) ∧ mu (L3.set t (x + y)) < mu L ∧ nth (L3.set t (x + y)) k = x) := fun h => Lib.hid (by
                        have h1 := rinv_step HG.out HR3.out (i := k) (by rw [HF.out]; exact hlt2) HX3.out hx0 (List.mem_of_getElem? hyk.out) (t := t) (by rw [HF.out]; exact HT.out) (by rw [HU.out]; exact h)
                        refine ⟨h1.1, ?_, ?_⟩
                        · cases hb : b3 with
                          | false => have := (HB3.out.1 hb).1; rw [this] at h1 ⊢; exact h1.2
                          | true => exact Nat.lt_trans h1.2 (HB3.out.2 hb)
                        · rw [nth_set (by rw [HR3.out.len, HF.out]; exact htf), if_neg]
                          · exact HX3.out
                          · intro e
                            have := HU.out
                            rw [e, HX3.out] at this
                            omega)
                      by_cases hun : u < 0
                      · have HST := hstep (.inl hun)
                        clear hstep
                        go_wp2
                        go_roundw
                        case rel => exact ⟨L3.set t (x + y), true, j + 1, by omega, by go_num, rfl, ho3.put_ t (x + y), Lib.hid HST.out.1, Lib.hid HST.out.2.2, hb3.setCell (Nat.le_refl _) _, Lib.hid ⟨(fun h => by cases h), fun _ => HST.out.2.1⟩⟩
                        case measure => simp [intOf]; omega
                      · by_cases hxu : x + y < u
                        · have HST := hstep (.inr hxu)
                          clear hstep
                          go_wp2
                          go_roundw
                          case rel => exact ⟨L3.set t (x + y), true, j + 1, by omega, by go_num, rfl, ho3.put_ t (x + y), Lib.hid HST.out.1, Lib.hid HST.out.2.2, hb3.setCell (Nat.le_refl _) _, Lib.hid ⟨(fun h => by cases h), fun _ => HST.out.2.1⟩⟩
                          case measure => simp [intOf]; omega
                        · clear hstep
                          have HB4 : Hid ((b3 = false → L3 = L ∧ FixTo cs L k (j + 1 + 1)) ∧ (b3 = true → mu L3 < mu L)) := Lib.hid ⟨fun h => ⟨(HB3.out.1 h).1, fun r hr h0 kk h1 h2 h3 => by
                            by_cases e : r = k ∧ kk = j + 1
                            · obtain ⟨rfl, rfl⟩ := e
                              rw [← (HB3.out.1 h).1, HX3.out, HYJ.out, HF.out, HT.out, HU.out]
                              omega
                            · exact (HB3.out.1 h).2 r hr h0 kk h1 h2 (by omega)⟩, HB3.out.2⟩
                          go_wp2
                          go_roundw
                          case rel => exact ⟨L3, b3, j + 1, by omega, by go_num, rfl, ho3, HR3, HX3, hb3, HB4⟩
                          case measure => simp [intOf]; omega
                    · have HB4 : Hid ((b3 = false → L3 = L ∧ FixTo cs L (k + 1) 0) ∧ (b3 = true → mu L3 < mu L)) := Lib.hid ⟨fun h => ⟨(HB3.out.1 h).1, fun r hr h0 kk h1 h2 h3 => (HB3.out.1 h).2 r hr h0 kk h1 h2 (by have := HL.out; omega)⟩, HB3.out.2⟩
                      go_wp2
                      go_roundw
                      case rel => exact ⟨L3, b3, k + 1, by omega, by go_num, rfl, ho3, HR3, hb3, HB4⟩
                      case measure => simp [intOf]; omega
            · obtain rfl : k = f := by omega
              have HMU2 := Lib.hid (muW_of ho2)
              go_wp2
              go_roundw
              case rel => exact ⟨L2, b2, rfl, ho2, HR2, hb2, Lib.hid (fun h => by rw [(HB2.out.1 h).1]; exact (HB2.out.1 h).2)⟩
              case measure =>
                rw [HMU.out, HMU2.out]
                cases hb : b2 with
                | false => rw [(HB2.out.1 hb).1]; simp [boolN]
                | true => have := HB2.out.2 hb; simp [boolN]; omega
  · have hf2 : 1 < f := by omega
    go_enter Try.func70, Try.ntmps70
    go_wp2_with (at_make; go_must (refine make_ints rfl (.tmp 19) (.tmp 19) rfl f _ rfl rfl rfl (by omega) ?_); go_must (intro w1 hr1 hb1; have k1 : w1.cell? ⟨g0, 0, none⟩ = some (.slice (some ad) n c) := (hb1.cell (p := ⟨g0, 0, none⟩) hgl).trans k0))
    go_loopw [24] (fun i wr => ∃ k : Nat, k ≤ f - 1 ∧ i = .int .i64 k ∧ Oi wr w.heap.size (some ⟨w.heap.size, 0, none⟩) f f (sR f k) ∧ Below w.heap.size w wr) (fun i _ => f - (intOf i).toNat)
    case atStart => exact ⟨0, Nat.zero_le _, rfl, by rw [sR_zero hf1]; exact hr1, hb1⟩
    case round =>
      obtain ⟨k, hk, rfl, ho, hb⟩ := hrel
      by_cases hlt : k < f - 1
      · obtain ⟨q, HQ⟩ : ∃ q, Hid (q = k + 1) := ⟨_, Lib.hid rfl⟩
        have hq : q < f := by rw [HQ.out]; omega
        have hq1 : (1 : Int) + k = q := by rw [HQ.out]; omega
        have hq2 : IntKind.i64.wrap ((1 : Int) + k) = q := by rw [hq1]; exact IntWalk.i64_in _ (by omega)
        have hcell := ho.cell hq
        have hfr := ho.frozen q
        have HS : Hid ((sR f k).set q (-1) = sR f (k + 1)) := Lib.hid (by rw [HQ.out]; exact sR_set (by omega))
        go_wp2
        go_roundw
        case rel => exact ⟨k + 1, by omega, by go_num, by rw [← HS.out]; exact ho.put_ q (-1), hb.setCell (Nat.le_refl _) _⟩
        case measure => simp [intOf]; omega
      · obtain rfl : k = f - 1 := by omega
        rw [sR_all] at ho
        go_wp2
        go_loopw [6] (fun ch wr => ∃ (L : List Int) (b : Bool), ch = .bool b ∧ Oi wr w.heap.size (some ⟨w.heap.size, 0, none⟩) f f L ∧ Hid (RInv cs L) ∧ Below w.heap.size w wr ∧ Hid (b = false → FixTo cs L f 0)) (fun ch wr => 2 * muW wr w.heap.size f + boolN ch)
        case atStart => exact ⟨startR f, true, rfl, ho, HRS, hb, Lib.hid (fun h => by cases h)⟩
        case round =>
          obtain ⟨L, b, rfl, ho1, HR1, hb1', HB1⟩ := hrel
          have HMU := Lib.hid (muW_of ho1)
          cases b
          · have HE : Hid (L = restsL cs) := Lib.hid (fix_rests HG.out HR1.out (by rw [HF.out]; exact HB1.out rfl))
            rw [HE.out] at ho1
            go_wp2
            go_ret
            exact ⟨_, _, rfl, ho1, hb1'⟩
          · go_wp2
            go_loopw [6, 35] (fun ch i wr => ∃ (L2 : List Int) (b2 : Bool) (k : Nat), k ≤ f ∧ i = .int .i64 k ∧ ch = .bool b2 ∧ Oi wr w.heap.size (some ⟨w.heap.size, 0, none⟩) f f L2 ∧ Hid (RInv cs L2) ∧ Below w.heap.size w wr ∧ Hid ((b2 = false → L2 = L ∧ FixTo cs L k 0) ∧ (b2 = true → mu L2 < mu L))) (fun _ i _ => f - (intOf i).toNat)
            case atStart => exact ⟨L, false, 0, Nat.zero_le _, rfl, rfl, ho1, HR1, hb1', Lib.hid ⟨fun _ => ⟨rfl, fun r hr h0 k h1 h2 h3 => by omega⟩, fun h => by cases h⟩⟩
            case round =>
              obtain ⟨L2, b2, k, hk, rfl, rfl, ho2, HR2, hb2, HB2⟩ := hrel
              by_cases hlt2 : k < f
              · have hcellk := ho2.cell hlt2
                obtain ⟨x, hxk⟩ : ∃ x, nth L2 k = x := ⟨_, rfl⟩
                have HXK := Lib.hid hxk
                rw [hxk] at hcellk
                clear hxk
                have kr : wr.cell? ⟨g0, 0, none⟩ = some (.slice (some ad) n c) := (hb2.cell (p := ⟨g0, 0, none⟩) hgl).trans k0
                by_cases hxn : x < 0
                · have HB4 : Hid ((b2 = false → L2 = L ∧ FixTo cs L (k + 1) 0) ∧ (b2 = true → mu L2 < mu L)) := Lib.hid ⟨fun h => ⟨(HB2.out.1 h).1, fun r hr h0 kk h1 h2 h3 => by
                    by_cases e : r = k
                    · subst e
                      rw [← (HB2.out.1 h).1, HXK.out] at h0
                      omega
                    · exact (HB2.out.1 h).2 r hr h0 kk h1 h2 (by omega)⟩, HB2.out.2⟩
                  go_wp2
                  go_roundw
                  case rel => exact ⟨L2, b2, k + 1, by omega, by go_num, rfl, ho2, HR2, hb2, HB4⟩
                  case measure => simp [intOf]; omega
                · have hx0 : 0 ≤ x := by omega
                  by_cases hcc : c = 1
                  · have hcle : c ≤ 1 := by omega
                    clear hcc
                    have hc1 : c ≤ 1 := hcle
                    go_wp2
                    go_loopw [6, 48] (fun ch i wr => ∃ (L3 : List Int) (b3 : Bool) (j : Nat), j ≤ n - 1 ∧ i = .int .i64 j ∧ ch = .bool b3 ∧ Oi wr w.heap.size (some ⟨w.heap.size, 0, none⟩) f f L3 ∧ Hid (RInv cs L3) ∧ Hid (nth L3 k = x) ∧ Below w.heap.size w wr ∧ Hid ((b3 = false → L3 = L ∧ FixTo cs L k (j + 1)) ∧ (b3 = true → mu L3 < mu L))) (fun _ i _ => n - (intOf i).toNat)
                    case atStart => exact ⟨L2, b2, 0, Nat.zero_le _, rfl, rfl, ho2, HR2, HXK, hb2, Lib.hid ⟨fun h => ⟨(HB2.out.1 h).1, fun r hr h0 kk h1 h2 h3 => (HB2.out.1 h).2 r hr h0 kk h1 h2 (by omega)⟩, HB2.out.2⟩⟩
                    case round =>
                      obtain ⟨L3, b3, j, hj, rfl, rfl, ho3, HR3, HX3, hb3, HB3⟩ := hrel
                      by_cases hlt3 : j < n - 1
                      · exfalso
                        omega
                      · have HB4 : Hid ((b3 = false → L3 = L ∧ FixTo cs L (k + 1) 0) ∧ (b3 = true → mu L3 < mu L)) := Lib.hid ⟨fun h => ⟨(HB3.out.1 h).1, fun r hr h0 kk h1 h2 h3 => (HB3.out.1 h).2 r hr h0 kk h1 h2 (by have := HL.out; omega)⟩, HB3.out.2⟩
                        go_wp2
                        go_roundw
                        case rel => exact ⟨L3, b3, k + 1, by omega, by go_num, rfl, ho3, HR3, hb3, HB4⟩
                        case measure => simp [intOf]; omega
                  · skip
                    have hc1 : 1 < c := by omega
                    go_wp2
                    go_loopw [6, 48] (fun ch i wr => ∃ (L3 : List Int) (b3 : Bool) (j : Nat), j ≤ n - 1 ∧ i = .int .i64 j ∧ ch = .bool b3 ∧ Oi wr w.heap.size (some ⟨w.heap.size, 0, none⟩) f f L3 ∧ Hid (RInv cs L3) ∧ Hid (nth L3 k = x) ∧ Below w.heap.size w wr ∧ Hid ((b3 = false → L3 = L ∧ FixTo cs L k (j + 1)) ∧ (b3 = true → mu L3 < mu L))) (fun _ i _ => n - (intOf i).toNat)
                    case atStart => exact ⟨L2, b2, 0, Nat.zero_le _, rfl, rfl, ho2, HR2, HXK, hb2, Lib.hid ⟨fun h => ⟨(HB2.out.1 h).1, fun r hr h0 kk h1 h2 h3 => (HB2.out.1 h).2 r hr h0 kk h1 h2 (by omega)⟩, HB2.out.2⟩⟩
                    case round =>
                      obtain ⟨L3, b3, j, hj, rfl, rfl, ho3, HR3, HX3, hb3, HB3⟩ := hrel
                      by_cases hlt3 : j < n - 1
                      · obtain ⟨ad5, y, hA5, _, cy0, hyk, _⟩ := hx.at_ (k := j + 1) (by omega)
                        cases hA5
                        have hy1 := HG.out.pos y (List.mem_of_getElem? hyk.out)
                        have hy50 := (HG.out.all y (List.mem_of_getElem? hyk.out)).2
                        have HYJ : Hid (nth cs (j + 1) = y) := Lib.hid (nth_some hyk.out)
                        have hcy : wr.cell? ⟨ad.block, ad.off + 1 + j, none⟩ = some (.int .i64 y) := by rw [← add_succ]; exact (hb3.cell (by rw [addr_block]; exact hadb)).trans cy0
                        clear cy0
                        obtain ⟨t, HT⟩ : ∃ t : Nat, Hid ((x + y).toNat % f = t) := ⟨_, Lib.hid rfl⟩
                        have htf : t < f := by rw [← HT.out]; exact Nat.mod_lt _ (by omega)
                        have hxb := (HR3.out.bd HG.out (r := k) (by rw [HF.out]; exact hlt2)).2
                        rw [HX3.out] at hxb
                        have hmod : (x + y) % (f : Int) = t := by
                          have h1 : x + y = (((x + y).toNat : Nat) : Int) := by omega
                          rw [h1, ← HT.out]
                          exact (Int.natCast_emod _ _).symm
                        have hmodt : Int.tmod (x + y) (f : Int) = t := by rw [Int.tmod_eq_emod_of_nonneg (by omega)]; exact hmod
                        have hwt : IntKind.i64.wrap (t : Int) = t := IntWalk.i64_in _ (by omega)
                        have hwxy : IntKind.i64.wrap (x + y) = x + y := IntWalk.i64_in _ (by omega)
                        have hcell := ho3.cell htf
                        have hfr := ho3.frozen t
                        obtain ⟨u, hu⟩ : ∃ u, nth L3 t = u := ⟨_, rfl⟩
                        have HU := Lib.hid hu
                        rw [hu] at hcell
                        have hub := HR3.out.bd HG.out (r := t) (by rw [HF.out]; exact htf)
                        rw [hu] at hub
                        clear hu
                        have hstep : (u < 0 ∨ x + y < u) → Hid (RInv cs (L3.set t (x + y)) ∧ mu (L3.set t (x + y)) < mu L ∧ nth (L3.set t (x + y)) k = x) := fun h => Lib.hid (by
                          have h1 := rinv_step HG.out HR3.out (i := k) (by rw [HF.out]; exact hlt2) HX3.out hx0 (List.mem_of_getElem? hyk.out) (t := t) (by rw [HF.out]; exact HT.out) (by rw [HU.out]; exact h)
                          refine ⟨h1.1, ?_, ?_⟩
                          · cases hb : b3 with
                            | false => have := (HB3.out.1 hb).1; rw [this] at h1 ⊢; exact h1.2
                            | true => exact Nat.lt_trans h1.2 (HB3.out.2 hb)
                          · rw [nth_set (by rw [HR3.out.len, HF.out]; exact htf), if_neg]
                            · exact HX3.out
                            · intro e
                              have := HU.out
                              rw [e, HX3.out] at this
                              omega)
                        by_cases hun : u < 0
                        · have HST := hstep (.inl hun)
                          clear hstep
                          go_wp2
                          go_roundw
                          case rel => exact ⟨L3.set t (x + y), true, j + 1, by omega, by go_num, rfl, ho3.put_ t (x + y), Lib.hid HST.out.1, Lib.hid HST.out.2.2, hb3.setCell (Nat.le_refl _) _, Lib.hid ⟨(fun h => by cases h), fun _ => HST.out.2.1⟩⟩
                          case measure => simp [intOf]; omega
                        · by_cases hxu : x + y < u
                          · have HST := hstep (.inr hxu)
                            clear hstep
                            go_wp2
                            go_roundw
                            case rel => exact ⟨L3.set t (x + y), true, j + 1, by omega, by go_num, rfl, ho3.put_ t (x + y), Lib.hid HST.out.1, Lib.hid HST.out.2.2, hb3.setCell (Nat.le_refl _) _, Lib.hid ⟨(fun h => by cases h), fun _ => HST.out.2.1⟩⟩
                            case measure => simp [intOf]; omega
                          · clear hstep
                            have HB4 : Hid ((b3 = false → L3 = L ∧ FixTo cs L k (j + 1 + 1)) ∧ (b3 = true → mu L3 < mu L)) := Lib.hid ⟨fun h => ⟨(HB3.out.1 h).1, fun r hr h0 kk h1 h2 h3 => by
                              by_cases e : r = k ∧ kk = j + 1
                              · obtain ⟨rfl, rfl⟩ := e
                                rw [← (HB3.out.1 h).1, HX3.out, HYJ.out, HF.out, HT.out, HU.out]
                                omega
                              · exact (HB3.out.1 h).2 r hr h0 kk h1 h2 (by omega)⟩, HB3.out.2⟩
                            go_wp2
                            go_roundw
                            case rel => exact ⟨L3, b3, j + 1, by omega, by go_num, rfl, ho3, HR3, HX3, hb3, HB4⟩
                            case measure => simp [intOf]; omega
                      · have HB4 : Hid ((b3 = false → L3 = L ∧ FixTo cs L (k + 1) 0) ∧ (b3 = true → mu L3 < mu L)) := Lib.hid ⟨fun h => ⟨(HB3.out.1 h).1, fun r hr h0 kk h1 h2 h3 => (HB3.out.1 h).2 r hr h0 kk h1 h2 (by have := HL.out; omega)⟩, HB3.out.2⟩
                        go_wp2
                        go_roundw
                        case rel => exact ⟨L3, b3, k + 1, by omega, by go_num, rfl, ho3, HR3, hb3, HB4⟩
                        case measure => simp [intOf]; omega
              · obtain rfl : k = f := by omega
                have HMU2 := Lib.hid (muW_of ho2)
                go_wp2
                go_roundw
                case rel => exact ⟨L2, b2, rfl, ho2, HR2, hb2, Lib.hid (fun h => by rw [(HB2.out.1 h).1]; exact (HB2.out.1 h).2)⟩
                case measure =>
                  rw [HMU.out, HMU2.out]
                  cases hb : b2 with
                  | false => rw [(HB2.out.1 hb).1]; simp [boolN]
                  | true => have := HB2.out.2 hb; simp [boolN]; omega
end Go.Proofs.Ytloibnmhgocboaa
