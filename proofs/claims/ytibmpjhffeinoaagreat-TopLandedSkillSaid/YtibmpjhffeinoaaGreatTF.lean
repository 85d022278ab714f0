/-
  Facts on the executor's tables. Printed by gen_tf.py.
-/
import Derived.Test.YtibmpjhffeinoaaGreatT
import Derived.Test.YtibmpjhffeinoaaGreatA5
import Derived.Test.YtibmpjhffeinoaaGreatTG
namespace Go.Proofs.YtibmpjhffeinoaaGreat.Kx
open Go
variable [Val] [Bet]

set_option maxRecDepth 100000

omit [Bet] in
theorem to2 : TOK Tryz.prog 2 ti2 := ⟨Tryz.t2, _, _, { info := Tryz.type2, under := Tryz.underlying2, size := rfl, spos := by decide, bytes := by decide, bytes1 := by decide, zero := rfl, zs := (by repeat' first | exact VRs.nil | exact VR.int _ _ | exact VR.bool _ | exact VR.ptr0 | exact VR.sl0 _ _ | exact VR.mp0 | exact VR.nilf | exact VR.str _ | exact VR.any _ | refine VRs.cons _ _ _ _ ?_ ?_), ones := allB_true (p := oneB) (by rfl), zlen := rfl, zagg := (fun h => by cases h), zone := fun _ => ⟨rfl, rfl⟩, desc := rfl }⟩
omit [Bet] in
theorem to3 : TOK Tryz.prog 3 ti3 := ⟨Tryz.t3, _, _, { info := Tryz.type3, under := Tryz.underlying3, size := rfl, spos := by decide, bytes := by decide, bytes1 := by decide, zero := rfl, zs := (by repeat' first | exact VRs.nil | exact VR.int _ _ | exact VR.bool _ | exact VR.ptr0 | exact VR.sl0 _ _ | exact VR.mp0 | exact VR.nilf | exact VR.str _ | exact VR.any _ | refine VRs.cons _ _ _ _ ?_ ?_), ones := allB_true (p := oneB) (by rfl), zlen := rfl, zagg := (fun h => by cases h), zone := fun _ => ⟨rfl, rfl⟩, desc := rfl }⟩
omit [Bet] in
theorem to4 : TOK Tryz.prog 4 ti4 := ⟨Tryz.t4, _, _, { info := Tryz.type4, under := Tryz.underlying4, size := rfl, spos := by decide, bytes := by decide, bytes1 := by decide, zero := rfl, zs := (by repeat' first | exact VRs.nil | exact VR.int _ _ | exact VR.bool _ | exact VR.ptr0 | exact VR.sl0 _ _ | exact VR.mp0 | exact VR.nilf | exact VR.str _ | exact VR.any _ | refine VRs.cons _ _ _ _ ?_ ?_), ones := allB_true (p := oneB) (by rfl), zlen := rfl, zagg := (fun h => by cases h), zone := fun _ => ⟨rfl, rfl⟩, desc := rfl }⟩
omit [Bet] in
theorem to5 : TOK Tryz.prog 5 ti5 := ⟨Tryz.t5, _, _, { info := Tryz.type5, under := Tryz.underlying5, size := rfl, spos := by decide, bytes := by decide, bytes1 := by decide, zero := rfl, zs := (by repeat' first | exact VRs.nil | exact VR.int _ _ | exact VR.bool _ | exact VR.ptr0 | exact VR.sl0 _ _ | exact VR.mp0 | exact VR.nilf | exact VR.str _ | exact VR.any _ | refine VRs.cons _ _ _ _ ?_ ?_), ones := allB_true (p := oneB) (by rfl), zlen := rfl, zagg := (fun h => by cases h), zone := fun _ => ⟨rfl, rfl⟩, desc := rfl }⟩
omit [Bet] in
theorem to9 : TOK Tryz.prog 9 ti9 := ⟨Tryz.t9, _, _, { info := Tryz.type9, under := Tryz.underlying9, size := rfl, spos := by decide, bytes := by decide, bytes1 := by decide, zero := rfl, zs := (by repeat' first | exact VRs.nil | exact VR.int _ _ | exact VR.bool _ | exact VR.ptr0 | exact VR.sl0 _ _ | exact VR.mp0 | exact VR.nilf | exact VR.str _ | exact VR.any _ | refine VRs.cons _ _ _ _ ?_ ?_), ones := allB_true (p := oneB) (by rfl), zlen := rfl, zagg := (fun h => by cases h), zone := fun _ => ⟨rfl, rfl⟩, desc := rfl }⟩
omit [Bet] in
theorem to22 : TOK Tryz.prog 22 ti22 := ⟨Tryz.t22, _, _, { info := Tryz.type22, under := Tryz.underlying22, size := rfl, spos := by decide, bytes := by decide, bytes1 := by decide, zero := rfl, zs := (by repeat' first | exact VRs.nil | exact VR.int _ _ | exact VR.bool _ | exact VR.ptr0 | exact VR.sl0 _ _ | exact VR.mp0 | exact VR.nilf | exact VR.str _ | exact VR.any _ | refine VRs.cons _ _ _ _ ?_ ?_), ones := allB_true (p := oneB) (by rfl), zlen := rfl, zagg := (fun h => by cases h), zone := fun _ => ⟨rfl, rfl⟩, desc := rfl }⟩
omit [Bet] in
theorem to23 : TOK Tryz.prog 23 ti23 := ⟨Tryz.t23, _, _, { info := Tryz.type23, under := Tryz.underlying23, size := rfl, spos := by decide, bytes := by decide, bytes1 := by decide, zero := rfl, zs := (by repeat' first | exact VRs.nil | exact VR.int _ _ | exact VR.bool _ | exact VR.ptr0 | exact VR.sl0 _ _ | exact VR.mp0 | exact VR.nilf | exact VR.str _ | exact VR.any _ | refine VRs.cons _ _ _ _ ?_ ?_), ones := allB_true (p := oneB) (by rfl), zlen := rfl, zagg := (fun h => by cases h), zone := fun _ => ⟨rfl, rfl⟩, desc := rfl }⟩
omit [Bet] in
theorem to25 : TOK Tryz.prog 25 ti25 := ⟨Tryz.t25, _, _, { info := Tryz.type25, under := Tryz.underlying25, size := rfl, spos := by decide, bytes := by decide, bytes1 := by decide, zero := rfl, zs := (by repeat' first | exact VRs.nil | exact VR.int _ _ | exact VR.bool _ | exact VR.ptr0 | exact VR.sl0 _ _ | exact VR.mp0 | exact VR.nilf | exact VR.str _ | exact VR.any _ | refine VRs.cons _ _ _ _ ?_ ?_), ones := allB_true (p := oneB) (by rfl), zlen := rfl, zagg := fun _ => rfl, zone := (fun h => by cases h), desc := ⟨_, rfl, rfl⟩ }⟩
omit [Bet] in
theorem to26 : TOK Tryz.prog 26 ti26 := ⟨Tryz.t26, _, _, { info := Tryz.type26, under := Tryz.underlying26, size := rfl, spos := by decide, bytes := by decide, bytes1 := by decide, zero := rfl, zs := (by repeat' first | exact VRs.nil | exact VR.int _ _ | exact VR.bool _ | exact VR.ptr0 | exact VR.sl0 _ _ | exact VR.mp0 | exact VR.nilf | exact VR.str _ | exact VR.any _ | refine VRs.cons _ _ _ _ ?_ ?_), ones := allB_true (p := oneB) (by rfl), zlen := rfl, zagg := (fun h => by cases h), zone := fun _ => ⟨rfl, rfl⟩, desc := rfl }⟩
omit [Bet] in
theorem to29 : TOK Tryz.prog 29 ti29 := ⟨Tryz.t29, _, _, { info := Tryz.type29, under := Tryz.underlying29, size := rfl, spos := by decide, bytes := by decide, bytes1 := by decide, zero := rfl, zs := (by repeat' first | exact VRs.nil | exact VR.int _ _ | exact VR.bool _ | exact VR.ptr0 | exact VR.sl0 _ _ | exact VR.mp0 | exact VR.nilf | exact VR.str _ | exact VR.any _ | refine VRs.cons _ _ _ _ ?_ ?_), ones := allB_true (p := oneB) (by rfl), zlen := rfl, zagg := (fun h => by cases h), zone := fun _ => ⟨rfl, rfl⟩, desc := rfl }⟩
omit [Bet] in
theorem to34 : TOK Tryz.prog 34 ti34 := ⟨Tryz.t34, _, _, { info := Tryz.type34, under := Tryz.underlying34, size := rfl, spos := by decide, bytes := by decide, bytes1 := by decide, zero := rfl, zs := (by repeat' first | exact VRs.nil | exact VR.int _ _ | exact VR.bool _ | exact VR.ptr0 | exact VR.sl0 _ _ | exact VR.mp0 | exact VR.nilf | exact VR.str _ | exact VR.any _ | refine VRs.cons _ _ _ _ ?_ ?_), ones := allB_true (p := oneB) (by rfl), zlen := rfl, zagg := (fun h => by cases h), zone := fun _ => ⟨rfl, rfl⟩, desc := rfl }⟩
omit [Bet] in
theorem to35 : TOK Tryz.prog 35 ti35 := ⟨Tryz.t35, _, _, { info := Tryz.type35, under := Tryz.underlying35, size := rfl, spos := by decide, bytes := by decide, bytes1 := by decide, zero := rfl, zs := (by repeat' first | exact VRs.nil | exact VR.int _ _ | exact VR.bool _ | exact VR.ptr0 | exact VR.sl0 _ _ | exact VR.mp0 | exact VR.nilf | exact VR.str _ | exact VR.any _ | refine VRs.cons _ _ _ _ ?_ ?_), ones := allB_true (p := oneB) (by rfl), zlen := rfl, zagg := (fun h => by cases h), zone := fun _ => ⟨rfl, rfl⟩, desc := rfl }⟩
omit [Bet] in
theorem to39 : TOK Tryz.prog 39 ti39 := ⟨Tryz.t39, _, _, { info := Tryz.type39, under := Tryz.underlying39, size := rfl, spos := by decide, bytes := by decide, bytes1 := by decide, zero := rfl, zs := (by repeat' first | exact VRs.nil | exact VR.int _ _ | exact VR.bool _ | exact VR.ptr0 | exact VR.sl0 _ _ | exact VR.mp0 | exact VR.nilf | exact VR.str _ | exact VR.any _ | refine VRs.cons _ _ _ _ ?_ ?_), ones := allB_true (p := oneB) (by rfl), zlen := rfl, zagg := fun _ => rfl, zone := (fun h => by cases h), desc := ⟨_, rfl, rfl⟩ }⟩
omit [Bet] in
theorem to44 : TOK Tryz.prog 44 ti44 := ⟨Tryz.t44, _, _, { info := Tryz.type44, under := Tryz.underlying44, size := rfl, spos := by decide, bytes := by decide, bytes1 := by decide, zero := rfl, zs := (by repeat' first | exact VRs.nil | exact VR.int _ _ | exact VR.bool _ | exact VR.ptr0 | exact VR.sl0 _ _ | exact VR.mp0 | exact VR.nilf | exact VR.str _ | exact VR.any _ | refine VRs.cons _ _ _ _ ?_ ?_), ones := allB_true (p := oneB) (by rfl), zlen := rfl, zagg := fun _ => rfl, zone := (fun h => by cases h), desc := ⟨_, rfl, rfl⟩ }⟩
omit [Bet] in
theorem to52 : TOK Tryz.prog 52 ti52 := ⟨Tryz.t52, _, _, { info := Tryz.type52, under := Tryz.underlying52, size := rfl, spos := by decide, bytes := by decide, bytes1 := by decide, zero := rfl, zs := (by repeat' first | exact VRs.nil | exact VR.int _ _ | exact VR.bool _ | exact VR.ptr0 | exact VR.sl0 _ _ | exact VR.mp0 | exact VR.nilf | exact VR.str _ | exact VR.any _ | refine VRs.cons _ _ _ _ ?_ ?_), ones := allB_true (p := oneB) (by rfl), zlen := rfl, zagg := fun _ => rfl, zone := (fun h => by cases h), desc := rfl }⟩
omit [Bet] in
theorem to53 : TOK Tryz.prog 53 ti53 := ⟨Tryz.t53, _, _, { info := Tryz.type53, under := Tryz.underlying53, size := rfl, spos := by decide, bytes := by decide, bytes1 := by decide, zero := rfl, zs := (by repeat' first | exact VRs.nil | exact VR.int _ _ | exact VR.bool _ | exact VR.ptr0 | exact VR.sl0 _ _ | exact VR.mp0 | exact VR.nilf | exact VR.str _ | exact VR.any _ | refine VRs.cons _ _ _ _ ?_ ?_), ones := allB_true (p := oneB) (by rfl), zlen := rfl, zagg := fun _ => rfl, zone := (fun h => by cases h), desc := rfl }⟩
omit [Bet] in
theorem to59 : TOK Tryz.prog 59 ti59 := ⟨Tryz.t59, _, _, { info := Tryz.type59, under := Tryz.underlying59, size := rfl, spos := by decide, bytes := by decide, bytes1 := by decide, zero := rfl, zs := (by repeat' first | exact VRs.nil | exact VR.int _ _ | exact VR.bool _ | exact VR.ptr0 | exact VR.sl0 _ _ | exact VR.mp0 | exact VR.nilf | exact VR.str _ | exact VR.any _ | refine VRs.cons _ _ _ _ ?_ ?_), ones := allB_true (p := oneB) (by rfl), zlen := rfl, zagg := fun _ => rfl, zone := (fun h => by cases h), desc := ⟨_, rfl, rfl⟩ }⟩
omit [Bet] in
theorem to79 : TOK Tryz.prog 79 ti79 := ⟨Tryz.t79, _, _, { info := Tryz.type79, under := Tryz.underlying79, size := rfl, spos := by decide, bytes := by decide, bytes1 := by decide, zero := rfl, zs := (by repeat' first | exact VRs.nil | exact VR.int _ _ | exact VR.bool _ | exact VR.ptr0 | exact VR.sl0 _ _ | exact VR.mp0 | exact VR.nilf | exact VR.str _ | exact VR.any _ | refine VRs.cons _ _ _ _ ?_ ?_), ones := allB_true (p := oneB) (by rfl), zlen := rfl, zagg := fun _ => rfl, zone := (fun h => by cases h), desc := ⟨_, rfl, rfl⟩ }⟩
omit [Bet] in
theorem to84 : TOK Tryz.prog 84 ti84 := ⟨Tryz.t84, _, _, { info := Tryz.type84, under := Tryz.underlying84, size := rfl, spos := by decide, bytes := by decide, bytes1 := by decide, zero := rfl, zs := (by repeat' first | exact VRs.nil | exact VR.int _ _ | exact VR.bool _ | exact VR.ptr0 | exact VR.sl0 _ _ | exact VR.mp0 | exact VR.nilf | exact VR.str _ | exact VR.any _ | refine VRs.cons _ _ _ _ ?_ ?_), ones := allB_true (p := oneB) (by rfl), zlen := rfl, zagg := (fun h => by cases h), zone := fun _ => ⟨rfl, rfl⟩, desc := rfl }⟩
omit [Bet] in
theorem to100 : TOK Tryz.prog 100 ti100 := ⟨Tryz.t100, _, _, { info := Tryz.type100, under := Tryz.underlying100, size := rfl, spos := by decide, bytes := by decide, bytes1 := by decide, zero := rfl, zs := (by repeat' first | exact VRs.nil | exact VR.int _ _ | exact VR.bool _ | exact VR.ptr0 | exact VR.sl0 _ _ | exact VR.mp0 | exact VR.nilf | exact VR.str _ | exact VR.any _ | refine VRs.cons _ _ _ _ ?_ ?_), ones := allB_true (p := oneB) (by rfl), zlen := rfl, zagg := (fun h => by cases h), zone := fun _ => ⟨rfl, rfl⟩, desc := rfl }⟩
omit [Bet] in
theorem to103 : TOK Tryz.prog 103 ti103 := ⟨Tryz.t103, _, _, { info := Tryz.type103, under := Tryz.underlying103, size := rfl, spos := by decide, bytes := by decide, bytes1 := by decide, zero := rfl, zs := (by repeat' first | exact VRs.nil | exact VR.int _ _ | exact VR.bool _ | exact VR.ptr0 | exact VR.sl0 _ _ | exact VR.mp0 | exact VR.nilf | exact VR.str _ | exact VR.any _ | refine VRs.cons _ _ _ _ ?_ ?_), ones := allB_true (p := oneB) (by rfl), zlen := rfl, zagg := (fun h => by cases h), zone := fun _ => ⟨rfl, rfl⟩, desc := rfl }⟩
omit [Bet] in
theorem to105 : TOK Tryz.prog 105 ti105 := ⟨Tryz.t105, _, _, { info := Tryz.type105, under := Tryz.underlying105, size := rfl, spos := by decide, bytes := by decide, bytes1 := by decide, zero := rfl, zs := (by repeat' first | exact VRs.nil | exact VR.int _ _ | exact VR.bool _ | exact VR.ptr0 | exact VR.sl0 _ _ | exact VR.mp0 | exact VR.nilf | exact VR.str _ | exact VR.any _ | refine VRs.cons _ _ _ _ ?_ ?_), ones := allB_true (p := oneB) (by rfl), zlen := rfl, zagg := fun _ => rfl, zone := (fun h => by cases h), desc := ⟨_, rfl, rfl⟩ }⟩
omit [Bet] in
theorem to111 : TOK Tryz.prog 111 ti111 := ⟨Tryz.t111, _, _, { info := Tryz.type111, under := Tryz.underlying111, size := rfl, spos := by decide, bytes := by decide, bytes1 := by decide, zero := rfl, zs := (by repeat' first | exact VRs.nil | exact VR.int _ _ | exact VR.bool _ | exact VR.ptr0 | exact VR.sl0 _ _ | exact VR.mp0 | exact VR.nilf | exact VR.str _ | exact VR.any _ | refine VRs.cons _ _ _ _ ?_ ?_), ones := allB_true (p := oneB) (by rfl), zlen := rfl, zagg := (fun h => by cases h), zone := fun _ => ⟨rfl, rfl⟩, desc := rfl }⟩
omit [Bet] in
theorem to115 : TOK Tryz.prog 115 ti115 := ⟨Tryz.t115, _, _, { info := Tryz.type115, under := Tryz.underlying115, size := rfl, spos := by decide, bytes := by decide, bytes1 := by decide, zero := rfl, zs := (by repeat' first | exact VRs.nil | exact VR.int _ _ | exact VR.bool _ | exact VR.ptr0 | exact VR.sl0 _ _ | exact VR.mp0 | exact VR.nilf | exact VR.str _ | exact VR.any _ | refine VRs.cons _ _ _ _ ?_ ?_), ones := allB_true (p := oneB) (by rfl), zlen := rfl, zagg := fun _ => rfl, zone := (fun h => by cases h), desc := rfl }⟩
omit [Bet] in
theorem to129 : TOK Tryz.prog 129 ti129 := ⟨Tryz.t129, _, _, { info := Tryz.type129, under := Tryz.underlying129, size := rfl, spos := by decide, bytes := by decide, bytes1 := by decide, zero := rfl, zs := (by repeat' first | exact VRs.nil | exact VR.int _ _ | exact VR.bool _ | exact VR.ptr0 | exact VR.sl0 _ _ | exact VR.mp0 | exact VR.nilf | exact VR.str _ | exact VR.any _ | refine VRs.cons _ _ _ _ ?_ ?_), ones := allB_true (p := oneB) (by rfl), zlen := rfl, zagg := (fun h => by cases h), zone := fun _ => ⟨rfl, rfl⟩, desc := rfl }⟩
omit [Bet] in
theorem to133 : TOK Tryz.prog 133 ti133 := ⟨Tryz.t133, _, _, { info := Tryz.type133, under := Tryz.underlying133, size := rfl, spos := by decide, bytes := by decide, bytes1 := by decide, zero := rfl, zs := (by repeat' first | exact VRs.nil | exact VR.int _ _ | exact VR.bool _ | exact VR.ptr0 | exact VR.sl0 _ _ | exact VR.mp0 | exact VR.nilf | exact VR.str _ | exact VR.any _ | refine VRs.cons _ _ _ _ ?_ ?_), ones := allB_true (p := oneB) (by rfl), zlen := rfl, zagg := fun _ => rfl, zone := (fun h => by cases h), desc := rfl }⟩
omit [Bet] in
theorem to135 : TOK Tryz.prog 135 ti135 := ⟨Tryz.t135, _, _, { info := Tryz.type135, under := Tryz.underlying135, size := rfl, spos := by decide, bytes := by decide, bytes1 := by decide, zero := rfl, zs := (by repeat' first | exact VRs.nil | exact VR.int _ _ | exact VR.bool _ | exact VR.ptr0 | exact VR.sl0 _ _ | exact VR.mp0 | exact VR.nilf | exact VR.str _ | exact VR.any _ | refine VRs.cons _ _ _ _ ?_ ?_), ones := allB_true (p := oneB) (by rfl), zlen := rfl, zagg := fun _ => rfl, zone := (fun h => by cases h), desc := ⟨_, rfl, rfl⟩ }⟩
omit [Bet] in
theorem to137 : TOK Tryz.prog 137 ti137 := ⟨Tryz.t137, _, _, { info := Tryz.type137, under := Tryz.underlying137, size := rfl, spos := by decide, bytes := by decide, bytes1 := by decide, zero := rfl, zs := (by repeat' first | exact VRs.nil | exact VR.int _ _ | exact VR.bool _ | exact VR.ptr0 | exact VR.sl0 _ _ | exact VR.mp0 | exact VR.nilf | exact VR.str _ | exact VR.any _ | refine VRs.cons _ _ _ _ ?_ ?_), ones := allB_true (p := oneB) (by rfl), zlen := rfl, zagg := (fun h => by cases h), zone := fun _ => ⟨rfl, rfl⟩, desc := trivial }⟩
omit [Bet] in
theorem to138 : TOK Tryz.prog 138 ti138 := ⟨Tryz.t138, _, _, { info := Tryz.type138, under := Tryz.underlying138, size := rfl, spos := by decide, bytes := by decide, bytes1 := by decide, zero := rfl, zs := (by repeat' first | exact VRs.nil | exact VR.int _ _ | exact VR.bool _ | exact VR.ptr0 | exact VR.sl0 _ _ | exact VR.mp0 | exact VR.nilf | exact VR.str _ | exact VR.any _ | refine VRs.cons _ _ _ _ ?_ ?_), ones := allB_true (p := oneB) (by rfl), zlen := rfl, zagg := (fun h => by cases h), zone := fun _ => ⟨rfl, rfl⟩, desc := trivial }⟩
omit [Bet] in
theorem to171 : TOK Tryz.prog 171 ti171 := ⟨Tryz.t171, _, _, { info := Tryz.type171, under := Tryz.underlying171, size := rfl, spos := by decide, bytes := by decide, bytes1 := by decide, zero := rfl, zs := (by repeat' first | exact VRs.nil | exact VR.int _ _ | exact VR.bool _ | exact VR.ptr0 | exact VR.sl0 _ _ | exact VR.mp0 | exact VR.nilf | exact VR.str _ | exact VR.any _ | refine VRs.cons _ _ _ _ ?_ ?_), ones := allB_true (p := oneB) (by rfl), zlen := rfl, zagg := (fun h => by cases h), zone := fun _ => ⟨rfl, rfl⟩, desc := rfl }⟩
omit [Bet] in
theorem to177 : TOK Tryz.prog 177 ti177 := ⟨Tryz.t177, _, _, { info := Tryz.type177, under := Tryz.underlying177, size := rfl, spos := by decide, bytes := by decide, bytes1 := by decide, zero := rfl, zs := (by repeat' first | exact VRs.nil | exact VR.int _ _ | exact VR.bool _ | exact VR.ptr0 | exact VR.sl0 _ _ | exact VR.mp0 | exact VR.nilf | exact VR.str _ | exact VR.any _ | refine VRs.cons _ _ _ _ ?_ ?_), ones := allB_true (p := oneB) (by rfl), zlen := rfl, zagg := fun _ => rfl, zone := (fun h => by cases h), desc := ⟨_, rfl, rfl⟩ }⟩
omit [Bet] in
theorem to188 : TOK Tryz.prog 188 ti188 := ⟨Tryz.t188, _, _, { info := Tryz.type188, under := Tryz.underlying188, size := rfl, spos := by decide, bytes := by decide, bytes1 := by decide, zero := rfl, zs := (by repeat' first | exact VRs.nil | exact VR.int _ _ | exact VR.bool _ | exact VR.ptr0 | exact VR.sl0 _ _ | exact VR.mp0 | exact VR.nilf | exact VR.str _ | exact VR.any _ | refine VRs.cons _ _ _ _ ?_ ?_), ones := allB_true (p := oneB) (by rfl), zlen := rfl, zagg := fun _ => rfl, zone := (fun h => by cases h), desc := ⟨_, rfl, rfl⟩ }⟩
omit [Bet] in
theorem to208 : TOK Tryz.prog 208 ti208 := ⟨Tryz.t208, _, _, { info := Tryz.type208, under := Tryz.underlying208, size := rfl, spos := by decide, bytes := by decide, bytes1 := by decide, zero := rfl, zs := (by repeat' first | exact VRs.nil | exact VR.int _ _ | exact VR.bool _ | exact VR.ptr0 | exact VR.sl0 _ _ | exact VR.mp0 | exact VR.nilf | exact VR.str _ | exact VR.any _ | refine VRs.cons _ _ _ _ ?_ ?_), ones := allB_true (p := oneB) (by rfl), zlen := rfl, zagg := (fun h => by cases h), zone := fun _ => ⟨rfl, rfl⟩, desc := rfl }⟩
omit [Bet] in
theorem to218 : TOK Tryz.prog 218 ti218 := ⟨Tryz.t218, _, _, { info := Tryz.type218, under := Tryz.underlying218, size := rfl, spos := by decide, bytes := by decide, bytes1 := by decide, zero := rfl, zs := (by repeat' first | exact VRs.nil | exact VR.int _ _ | exact VR.bool _ | exact VR.ptr0 | exact VR.sl0 _ _ | exact VR.mp0 | exact VR.nilf | exact VR.str _ | exact VR.any _ | refine VRs.cons _ _ _ _ ?_ ?_), ones := allB_true (p := oneB) (by rfl), zlen := rfl, zagg := fun _ => rfl, zone := (fun h => by cases h), desc := ⟨_, rfl, rfl⟩ }⟩
omit [Bet] in
theorem to223 : TOK Tryz.prog 223 ti223 := ⟨Tryz.t223, _, _, { info := Tryz.type223, under := Tryz.underlying223, size := rfl, spos := by decide, bytes := by decide, bytes1 := by decide, zero := rfl, zs := (by repeat' first | exact VRs.nil | exact VR.int _ _ | exact VR.bool _ | exact VR.ptr0 | exact VR.sl0 _ _ | exact VR.mp0 | exact VR.nilf | exact VR.str _ | exact VR.any _ | refine VRs.cons _ _ _ _ ?_ ?_), ones := allB_true (p := oneB) (by rfl), zlen := rfl, zagg := fun _ => rfl, zone := (fun h => by cases h), desc := ⟨_, rfl, rfl⟩ }⟩
omit [Bet] in
theorem to225 : TOK Tryz.prog 225 ti225 := ⟨Tryz.t225, _, _, { info := Tryz.type225, under := Tryz.underlying225, size := rfl, spos := by decide, bytes := by decide, bytes1 := by decide, zero := rfl, zs := (by repeat' first | exact VRs.nil | exact VR.int _ _ | exact VR.bool _ | exact VR.ptr0 | exact VR.sl0 _ _ | exact VR.mp0 | exact VR.nilf | exact VR.str _ | exact VR.any _ | refine VRs.cons _ _ _ _ ?_ ?_), ones := allB_true (p := oneB) (by rfl), zlen := rfl, zagg := fun _ => rfl, zone := (fun h => by cases h), desc := ⟨_, rfl, rfl⟩ }⟩
omit [Bet] in
theorem to226 : TOK Tryz.prog 226 ti226 := ⟨Tryz.t226, _, _, { info := Tryz.type226, under := Tryz.underlying226, size := rfl, spos := by decide, bytes := by decide, bytes1 := by decide, zero := rfl, zs := (by repeat' first | exact VRs.nil | exact VR.int _ _ | exact VR.bool _ | exact VR.ptr0 | exact VR.sl0 _ _ | exact VR.mp0 | exact VR.nilf | exact VR.str _ | exact VR.any _ | refine VRs.cons _ _ _ _ ?_ ?_), ones := allB_true (p := oneB) (by rfl), zlen := rfl, zagg := (fun h => by cases h), zone := fun _ => ⟨rfl, rfl⟩, desc := rfl }⟩
omit [Bet] in
theorem to306 : TOK Tryz.prog 306 ti306 := ⟨Tryz.t306, _, _, { info := Tryz.type306, under := Tryz.underlying306, size := rfl, spos := by decide, bytes := by decide, bytes1 := by decide, zero := rfl, zs := (by repeat' first | exact VRs.nil | exact VR.int _ _ | exact VR.bool _ | exact VR.ptr0 | exact VR.sl0 _ _ | exact VR.mp0 | exact VR.nilf | exact VR.str _ | exact VR.any _ | refine VRs.cons _ _ _ _ ?_ ?_), ones := allB_true (p := oneB) (by rfl), zlen := rfl, zagg := (fun h => by cases h), zone := fun _ => ⟨rfl, rfl⟩, desc := trivial }⟩
omit [Bet] in
theorem to373 : TOK Tryz.prog 373 ti373 := ⟨Tryz.t373, _, _, { info := Tryz.type373, under := Tryz.underlying373, size := rfl, spos := by decide, bytes := by decide, bytes1 := by decide, zero := rfl, zs := (by repeat' first | exact VRs.nil | exact VR.int _ _ | exact VR.bool _ | exact VR.ptr0 | exact VR.sl0 _ _ | exact VR.mp0 | exact VR.nilf | exact VR.str _ | exact VR.any _ | refine VRs.cons _ _ _ _ ?_ ?_), ones := allB_true (p := oneB) (by rfl), zlen := rfl, zagg := fun _ => rfl, zone := (fun h => by cases h), desc := rfl }⟩
omit [Bet] in
theorem to377 : TOK Tryz.prog 377 ti377 := ⟨Tryz.t377, _, _, { info := Tryz.type377, under := Tryz.underlying377, size := rfl, spos := by decide, bytes := by decide, bytes1 := by decide, zero := rfl, zs := (by repeat' first | exact VRs.nil | exact VR.int _ _ | exact VR.bool _ | exact VR.ptr0 | exact VR.sl0 _ _ | exact VR.mp0 | exact VR.nilf | exact VR.str _ | exact VR.any _ | refine VRs.cons _ _ _ _ ?_ ?_), ones := allB_true (p := oneB) (by rfl), zlen := rfl, zagg := (fun h => by cases h), zone := fun _ => ⟨rfl, rfl⟩, desc := trivial }⟩
omit [Bet] in
theorem to378 : TOK Tryz.prog 378 ti378 := ⟨Tryz.t378, _, _, { info := Tryz.type378, under := Tryz.underlying378, size := rfl, spos := by decide, bytes := by decide, bytes1 := by decide, zero := rfl, zs := (by repeat' first | exact VRs.nil | exact VR.int _ _ | exact VR.bool _ | exact VR.ptr0 | exact VR.sl0 _ _ | exact VR.mp0 | exact VR.nilf | exact VR.str _ | exact VR.any _ | refine VRs.cons _ _ _ _ ?_ ?_), ones := allB_true (p := oneB) (by rfl), zlen := rfl, zagg := (fun h => by cases h), zone := fun _ => ⟨rfl, rfl⟩, desc := rfl }⟩
omit [Bet] in
theorem to381 : TOK Tryz.prog 381 ti381 := ⟨Tryz.t381, _, _, { info := Tryz.type381, under := Tryz.underlying381, size := rfl, spos := by decide, bytes := by decide, bytes1 := by decide, zero := rfl, zs := (by repeat' first | exact VRs.nil | exact VR.int _ _ | exact VR.bool _ | exact VR.ptr0 | exact VR.sl0 _ _ | exact VR.mp0 | exact VR.nilf | exact VR.str _ | exact VR.any _ | refine VRs.cons _ _ _ _ ?_ ?_), ones := allB_true (p := oneB) (by rfl), zlen := rfl, zagg := fun _ => rfl, zone := (fun h => by cases h), desc := ⟨_, rfl, rfl⟩ }⟩
omit [Bet] in
theorem to386 : TOK Tryz.prog 386 ti386 := ⟨Tryz.t386, _, _, { info := Tryz.type386, under := Tryz.underlying386, size := rfl, spos := by decide, bytes := by decide, bytes1 := by decide, zero := rfl, zs := (by repeat' first | exact VRs.nil | exact VR.int _ _ | exact VR.bool _ | exact VR.ptr0 | exact VR.sl0 _ _ | exact VR.mp0 | exact VR.nilf | exact VR.str _ | exact VR.any _ | refine VRs.cons _ _ _ _ ?_ ?_), ones := allB_true (p := oneB) (by rfl), zlen := rfl, zagg := fun _ => rfl, zone := (fun h => by cases h), desc := ⟨_, rfl, rfl⟩ }⟩
omit [Bet] in
theorem to411 : TOK Tryz.prog 411 ti411 := ⟨Tryz.t411, _, _, { info := Tryz.type411, under := Tryz.underlying411, size := rfl, spos := by decide, bytes := by decide, bytes1 := by decide, zero := rfl, zs := (by repeat' first | exact VRs.nil | exact VR.int _ _ | exact VR.bool _ | exact VR.ptr0 | exact VR.sl0 _ _ | exact VR.mp0 | exact VR.nilf | exact VR.str _ | exact VR.any _ | refine VRs.cons _ _ _ _ ?_ ?_), ones := allB_true (p := oneB) (by rfl), zlen := rfl, zagg := (fun h => by cases h), zone := fun _ => ⟨rfl, rfl⟩, desc := rfl }⟩
omit [Bet] in
theorem to415 : TOK Tryz.prog 415 ti415 := ⟨Tryz.t415, _, _, { info := Tryz.type415, under := Tryz.underlying415, size := rfl, spos := by decide, bytes := by decide, bytes1 := by decide, zero := rfl, zs := (by repeat' first | exact VRs.nil | exact VR.int _ _ | exact VR.bool _ | exact VR.ptr0 | exact VR.sl0 _ _ | exact VR.mp0 | exact VR.nilf | exact VR.str _ | exact VR.any _ | refine VRs.cons _ _ _ _ ?_ ?_), ones := allB_true (p := oneB) (by rfl), zlen := rfl, zagg := (fun h => by cases h), zone := fun _ => ⟨rfl, rfl⟩, desc := rfl }⟩
omit [Bet] in
theorem to417 : TOK Tryz.prog 417 ti417 := ⟨Tryz.t417, _, _, { info := Tryz.type417, under := Tryz.underlying417, size := rfl, spos := by decide, bytes := by decide, bytes1 := by decide, zero := rfl, zs := (by repeat' first | exact VRs.nil | exact VR.int _ _ | exact VR.bool _ | exact VR.ptr0 | exact VR.sl0 _ _ | exact VR.mp0 | exact VR.nilf | exact VR.str _ | exact VR.any _ | refine VRs.cons _ _ _ _ ?_ ?_), ones := allB_true (p := oneB) (by rfl), zlen := rfl, zagg := (fun h => by cases h), zone := fun _ => ⟨rfl, rfl⟩, desc := rfl }⟩
omit [Bet] in
theorem to424 : TOK Tryz.prog 424 ti424 := ⟨Tryz.t424, _, _, { info := Tryz.type424, under := Tryz.underlying424, size := rfl, spos := by decide, bytes := by decide, bytes1 := by decide, zero := rfl, zs := (by repeat' first | exact VRs.nil | exact VR.int _ _ | exact VR.bool _ | exact VR.ptr0 | exact VR.sl0 _ _ | exact VR.mp0 | exact VR.nilf | exact VR.str _ | exact VR.any _ | refine VRs.cons _ _ _ _ ?_ ?_), ones := allB_true (p := oneB) (by rfl), zlen := rfl, zagg := (fun h => by cases h), zone := fun _ => ⟨rfl, rfl⟩, desc := rfl }⟩
omit [Bet] in
theorem to426 : TOK Tryz.prog 426 ti426 := ⟨Tryz.t426, _, _, { info := Tryz.type426, under := Tryz.underlying426, size := rfl, spos := by decide, bytes := by decide, bytes1 := by decide, zero := rfl, zs := (by repeat' first | exact VRs.nil | exact VR.int _ _ | exact VR.bool _ | exact VR.ptr0 | exact VR.sl0 _ _ | exact VR.mp0 | exact VR.nilf | exact VR.str _ | exact VR.any _ | refine VRs.cons _ _ _ _ ?_ ?_), ones := allB_true (p := oneB) (by rfl), zlen := rfl, zagg := (fun h => by cases h), zone := fun _ => ⟨rfl, rfl⟩, desc := rfl }⟩
omit [Bet] in
theorem to433 : TOK Tryz.prog 433 ti433 := ⟨Tryz.t433, _, _, { info := Tryz.type433, under := Tryz.underlying433, size := rfl, spos := by decide, bytes := by decide, bytes1 := by decide, zero := rfl, zs := (by repeat' first | exact VRs.nil | exact VR.int _ _ | exact VR.bool _ | exact VR.ptr0 | exact VR.sl0 _ _ | exact VR.mp0 | exact VR.nilf | exact VR.str _ | exact VR.any _ | refine VRs.cons _ _ _ _ ?_ ?_), ones := allB_true (p := oneB) (by rfl), zlen := rfl, zagg := (fun h => by cases h), zone := fun _ => ⟨rfl, rfl⟩, desc := rfl }⟩
theorem fo10 : FOK Tryz.prog 10 fi10 := ⟨Tryz.f10, Tryz.func10, by rfl, trivial, by rfl, by rfl, by kernel_rfl⟩
theorem fo11 : FOK Tryz.prog 11 fi11 := ⟨Tryz.f11, Tryz.func11, by rfl, trivial, by rfl, by rfl, by kernel_rfl⟩
theorem fo12 : FOK Tryz.prog 12 fi12 := ⟨Tryz.f12, Tryz.func12, by rfl, trivial, by rfl, by rfl, by kernel_rfl⟩
theorem fo13 : FOK Tryz.prog 13 fi13 := ⟨Tryz.f13, Tryz.func13, by rfl, trivial, by rfl, by rfl, by kernel_rfl⟩
theorem fo16 : FOK Tryz.prog 16 fi16 := ⟨Tryz.f16, Tryz.func16, by rfl, trivial, by rfl, by rfl, by kernel_rfl⟩
theorem fo18 : FOK Tryz.prog 18 fi18 := ⟨Tryz.f18, Tryz.func18, by rfl, trivial, by rfl, by rfl, by kernel_rfl⟩
theorem fo19 : FOK Tryz.prog 19 fi19 := ⟨Tryz.f19, Tryz.func19, by rfl, trivial, by rfl, by rfl, by kernel_rfl⟩
theorem fo27 : FOK Tryz.prog 27 fi27 := ⟨Tryz.f27, Tryz.func27, by rfl, trivial, by rfl, by rfl, by kernel_rfl⟩
theorem fo28 : FOK Tryz.prog 28 fi28 := ⟨Tryz.f28, Tryz.func28, by rfl, trivial, by rfl, by rfl, by kernel_rfl⟩
theorem fo29 : FOK Tryz.prog 29 fi29 := ⟨Tryz.f29, Tryz.func29, by rfl, trivial, by rfl, by rfl, by kernel_rfl⟩
theorem fo32 : FOK Tryz.prog 32 fi32 := ⟨Tryz.f32, Tryz.func32, by rfl, trivial, by rfl, by rfl, by kernel_rfl⟩
theorem fo34 : FOK Tryz.prog 34 fi34 := ⟨Tryz.f34, Tryz.func34, by rfl, trivial, by rfl, by rfl, by kernel_rfl⟩
theorem fo50 : FOK Tryz.prog 50 fi50 := ⟨Tryz.f50, Tryz.func50, by rfl, trivial, by rfl, by rfl, by kernel_rfl⟩
theorem fo51 : FOK Tryz.prog 51 fi51 := ⟨Tryz.f51, Tryz.func51, by rfl, trivial, by rfl, by rfl, by kernel_rfl⟩
theorem fo52 : FOK Tryz.prog 52 fi52 := ⟨Tryz.f52, Tryz.func52, by rfl, trivial, by rfl, by rfl, by kernel_rfl⟩
theorem fo53 : FOK Tryz.prog 53 fi53 := ⟨Tryz.f53, Tryz.func53, by rfl, trivial, by rfl, by rfl, by kernel_rfl⟩
theorem fo54 : FOK Tryz.prog 54 fi54 := ⟨Tryz.f54, Tryz.func54, by rfl, trivial, by rfl, by rfl, by kernel_rfl⟩
theorem fo55 : FOK Tryz.prog 55 fi55 := ⟨Tryz.f55, Tryz.func55, by rfl, trivial, by rfl, by rfl, by kernel_rfl⟩
theorem fo56 : FOK Tryz.prog 56 fi56 := ⟨Tryz.f56, Tryz.func56, by rfl, trivial, by rfl, by rfl, by kernel_rfl⟩
theorem fo59 : FOK Tryz.prog 59 fi59 := ⟨Tryz.f59, Tryz.func59, by rfl, trivial, by rfl, by rfl, by kernel_rfl⟩
theorem fo60 : FOK Tryz.prog 60 fi60 := ⟨Tryz.f60, Tryz.func60, by rfl, trivial, by rfl, by rfl, by kernel_rfl⟩
theorem fo61 : FOK Tryz.prog 61 fi61 := ⟨Tryz.f61, Tryz.func61, by rfl, trivial, by rfl, by rfl, by kernel_rfl⟩
theorem fo62 : FOK Tryz.prog 62 fi62 := ⟨Tryz.f62, Tryz.func62, by rfl, trivial, by rfl, by rfl, by kernel_rfl⟩
theorem fo63 : FOK Tryz.prog 63 fi63 := ⟨Tryz.f63, Tryz.func63, by rfl, trivial, by rfl, by rfl, by kernel_rfl⟩
theorem fo64 : FOK Tryz.prog 64 fi64 := ⟨Tryz.f64, Tryz.func64, by rfl, trivial, by rfl, by rfl, by kernel_rfl⟩
theorem fo67 : FOK Tryz.prog 67 fi67 := ⟨Tryz.f67, Tryz.func67, by rfl, trivial, by rfl, by rfl, by kernel_rfl⟩
theorem fo68 : FOK Tryz.prog 68 fi68 := ⟨Tryz.f68, Tryz.func68, by rfl, trivial, by rfl, by rfl, by kernel_rfl⟩
theorem fo69 : FOK Tryz.prog 69 fi69 := ⟨Tryz.f69, Tryz.func69, by rfl, trivial, by rfl, by rfl, by kernel_rfl⟩
theorem fo74 : FOK Tryz.prog 74 fi74 := ⟨Tryz.f74, Tryz.func74, by rfl, trivial, by rfl, by rfl, by kernel_rfl⟩
theorem fo75 : FOK Tryz.prog 75 fi75 := ⟨Tryz.f75, Tryz.func75, by rfl, trivial, by rfl, by rfl, by kernel_rfl⟩
theorem fo76 : FOK Tryz.prog 76 fi76 := ⟨Tryz.f76, Tryz.func76, by rfl, trivial, by rfl, by rfl, by kernel_rfl⟩
theorem fo97 : FOK Tryz.prog 97 fi97 := ⟨Tryz.f97, Tryz.func97, by rfl, trivial, by rfl, by rfl, by kernel_rfl⟩
theorem fo98 : FOK Tryz.prog 98 fi98 := ⟨Tryz.f98, Tryz.func98, by rfl, trivial, by rfl, by rfl, by kernel_rfl⟩
theorem fo99 : FOK Tryz.prog 99 fi99 := ⟨Tryz.f99, Tryz.func99, by rfl, trivial, by rfl, by rfl, by kernel_rfl⟩
theorem fo100 : FOK Tryz.prog 100 fi100 := ⟨Tryz.f100, Tryz.func100, by rfl, trivial, by rfl, by rfl, by kernel_rfl⟩
theorem fo101 : FOK Tryz.prog 101 fi101 := ⟨Tryz.f101, Tryz.func101, by rfl, trivial, by rfl, by rfl, by kernel_rfl⟩
theorem fo102 : FOK Tryz.prog 102 fi102 := ⟨Tryz.f102, Tryz.func102, by rfl, trivial, by rfl, by rfl, by kernel_rfl⟩
theorem fo103 : FOK Tryz.prog 103 fi103 := ⟨Tryz.f103, Tryz.func103, by rfl, trivial, by rfl, by rfl, by kernel_rfl⟩
theorem fo104 : FOK Tryz.prog 104 fi104 := ⟨Tryz.f104, Tryz.func104, by rfl, trivial, by rfl, by rfl, by kernel_rfl⟩
theorem fo105 : FOK Tryz.prog 105 fi105 := ⟨Tryz.f105, Tryz.func105, by rfl, trivial, by rfl, by rfl, by kernel_rfl⟩
theorem fo106 : FOK Tryz.prog 106 fi106 := ⟨Tryz.f106, Tryz.func106, by rfl, trivial, by rfl, by rfl, by kernel_rfl⟩
theorem fo107 : FOK Tryz.prog 107 fi107 := ⟨Tryz.f107, Tryz.func107, by rfl, trivial, by rfl, by rfl, by kernel_rfl⟩
theorem fo108 : FOK Tryz.prog 108 fi108 := ⟨Tryz.f108, Tryz.func108, by rfl, trivial, by rfl, by rfl, by kernel_rfl⟩
theorem fo109 : FOK Tryz.prog 109 fi109 := ⟨Tryz.f109, Tryz.func109, by rfl, trivial, by rfl, by rfl, by kernel_rfl⟩
theorem fo110 : FOK Tryz.prog 110 fi110 := ⟨Tryz.f110, Tryz.func110, by rfl, trivial, by rfl, by rfl, by kernel_rfl⟩
theorem fo111 : FOK Tryz.prog 111 fi111 := ⟨Tryz.f111, Tryz.func111, by rfl, trivial, by rfl, by rfl, by kernel_rfl⟩
theorem fo112 : FOK Tryz.prog 112 fi112 := ⟨Tryz.f112, Tryz.func112, by rfl, trivial, by rfl, by rfl, by kernel_rfl⟩
theorem fo113 : FOK Tryz.prog 113 fi113 := ⟨Tryz.f113, Tryz.func113, by rfl, trivial, by rfl, by rfl, by kernel_rfl⟩
theorem fo114 : FOK Tryz.prog 114 fi114 := ⟨Tryz.f114, Tryz.func114, by rfl, trivial, by rfl, by rfl, by kernel_rfl⟩
theorem fo115 : FOK Tryz.prog 115 fi115 := ⟨Tryz.f115, Tryz.func115, by rfl, trivial, by rfl, by rfl, by kernel_rfl⟩
theorem fo116 : FOK Tryz.prog 116 fi116 := ⟨Tryz.f116, Tryz.func116, by rfl, trivial, by rfl, by rfl, by kernel_rfl⟩
theorem fo117 : FOK Tryz.prog 117 fi117 := ⟨Tryz.f117, Tryz.func117, by rfl, trivial, by rfl, by rfl, by kernel_rfl⟩
theorem fo118 : FOK Tryz.prog 118 fi118 := ⟨Tryz.f118, Tryz.func118, by rfl, trivial, by rfl, by rfl, by kernel_rfl⟩
theorem fo119 : FOK Tryz.prog 119 fi119 := ⟨Tryz.f119, Tryz.func119, by rfl, trivial, by rfl, by rfl, by kernel_rfl⟩
theorem fo120 : FOK Tryz.prog 120 fi120 := ⟨Tryz.f120, Tryz.func120, by rfl, trivial, by rfl, by rfl, by kernel_rfl⟩
theorem fo121 : FOK Tryz.prog 121 fi121 := ⟨Tryz.f121, Tryz.func121, by rfl, trivial, by rfl, by rfl, by kernel_rfl⟩
theorem fo122 : FOK Tryz.prog 122 fi122 := ⟨Tryz.f122, Tryz.func122, by rfl, trivial, by rfl, by rfl, by kernel_rfl⟩
theorem fo123 : FOK Tryz.prog 123 fi123 := ⟨Tryz.f123, Tryz.func123, by rfl, trivial, by rfl, by rfl, by kernel_rfl⟩
theorem fo124 : FOK Tryz.prog 124 fi124 := ⟨Tryz.f124, Tryz.func124, by rfl, trivial, by rfl, by rfl, by kernel_rfl⟩
theorem fo125 : FOK Tryz.prog 125 fi125 := ⟨Tryz.f125, Tryz.func125, by rfl, trivial, by rfl, by rfl, by kernel_rfl⟩
theorem fo126 : FOK Tryz.prog 126 fi126 := ⟨Tryz.f126, Tryz.func126, by rfl, trivial, by rfl, by rfl, by kernel_rfl⟩
theorem fo127 : FOK Tryz.prog 127 fi127 := ⟨Tryz.f127, Tryz.func127, by rfl, trivial, by rfl, by rfl, by kernel_rfl⟩
theorem fo128 : FOK Tryz.prog 128 fi128 := ⟨Tryz.f128, Tryz.func128, by rfl, trivial, by rfl, by rfl, by kernel_rfl⟩
theorem fo129 : FOK Tryz.prog 129 fi129 := ⟨Tryz.f129, Tryz.func129, by rfl, trivial, by rfl, by rfl, by kernel_rfl⟩
theorem fo130 : FOK Tryz.prog 130 fi130 := ⟨Tryz.f130, Tryz.func130, by rfl, trivial, by rfl, by rfl, by kernel_rfl⟩
theorem fo131 : FOK Tryz.prog 131 fi131 := ⟨Tryz.f131, Tryz.func131, by rfl, trivial, by rfl, by rfl, by kernel_rfl⟩
theorem fo132 : FOK Tryz.prog 132 fi132 := ⟨Tryz.f132, Tryz.func132, by rfl, trivial, by rfl, by rfl, by kernel_rfl⟩
theorem fo133 : FOK Tryz.prog 133 fi133 := ⟨Tryz.f133, Tryz.func133, by rfl, trivial, by rfl, by rfl, by kernel_rfl⟩
theorem fo134 : FOK Tryz.prog 134 fi134 := ⟨Tryz.f134, Tryz.func134, by rfl, trivial, by rfl, by rfl, by kernel_rfl⟩
theorem fo135 : FOK Tryz.prog 135 fi135 := ⟨Tryz.f135, Tryz.func135, by rfl, trivial, by rfl, by rfl, by kernel_rfl⟩
theorem fo136 : FOK Tryz.prog 136 fi136 := ⟨Tryz.f136, Tryz.func136, by rfl, trivial, by rfl, by rfl, by kernel_rfl⟩
theorem fo137 : FOK Tryz.prog 137 fi137 := ⟨Tryz.f137, Tryz.func137, by rfl, trivial, by rfl, by rfl, by kernel_rfl⟩
theorem fo138 : FOK Tryz.prog 138 fi138 := ⟨Tryz.f138, Tryz.func138, by rfl, trivial, by rfl, by rfl, by kernel_rfl⟩
theorem fo139 : FOK Tryz.prog 139 fi139 := ⟨Tryz.f139, Tryz.func139, by rfl, trivial, by rfl, by rfl, by kernel_rfl⟩
theorem fo140 : FOK Tryz.prog 140 fi140 := ⟨Tryz.f140, Tryz.func140, by rfl, trivial, by rfl, by rfl, by kernel_rfl⟩
theorem fo141 : FOK Tryz.prog 141 fi141 := ⟨Tryz.f141, Tryz.func141, by rfl, trivial, by rfl, by rfl, by kernel_rfl⟩
theorem fo142 : FOK Tryz.prog 142 fi142 := ⟨Tryz.f142, Tryz.func142, by rfl, trivial, by rfl, by rfl, by kernel_rfl⟩
theorem fo143 : FOK Tryz.prog 143 fi143 := ⟨Tryz.f143, Tryz.func143, by rfl, trivial, by rfl, by rfl, by kernel_rfl⟩
theorem fo144 : FOK Tryz.prog 144 fi144 := ⟨Tryz.f144, Tryz.func144, by rfl, trivial, by rfl, by rfl, by kernel_rfl⟩
theorem fo145 : FOK Tryz.prog 145 fi145 := ⟨Tryz.f145, Tryz.func145, by rfl, trivial, by rfl, by rfl, by kernel_rfl⟩
theorem fo146 : FOK Tryz.prog 146 fi146 := ⟨Tryz.f146, Tryz.func146, by rfl, trivial, by rfl, by rfl, by kernel_rfl⟩
theorem fo147 : FOK Tryz.prog 147 fi147 := ⟨Tryz.f147, Tryz.func147, by rfl, trivial, by rfl, by rfl, by kernel_rfl⟩
theorem fo148 : FOK Tryz.prog 148 fi148 := ⟨Tryz.f148, Tryz.func148, by rfl, trivial, by rfl, by rfl, by kernel_rfl⟩
theorem fo149 : FOK Tryz.prog 149 fi149 := ⟨Tryz.f149, Tryz.func149, by rfl, trivial, by rfl, by rfl, by kernel_rfl⟩
theorem fo150 : FOK Tryz.prog 150 fi150 := ⟨Tryz.f150, Tryz.func150, by rfl, trivial, by rfl, by rfl, by kernel_rfl⟩
theorem fo151 : FOK Tryz.prog 151 fi151 := ⟨Tryz.f151, Tryz.func151, by rfl, trivial, by rfl, by rfl, by kernel_rfl⟩
theorem fo152 : FOK Tryz.prog 152 fi152 := ⟨Tryz.f152, Tryz.func152, by rfl, trivial, by rfl, by rfl, by kernel_rfl⟩
theorem fo153 : FOK Tryz.prog 153 fi153 := ⟨Tryz.f153, Tryz.func153, by rfl, trivial, by rfl, by rfl, by kernel_rfl⟩
theorem fo154 : FOK Tryz.prog 154 fi154 := ⟨Tryz.f154, Tryz.func154, by rfl, trivial, by rfl, by rfl, by kernel_rfl⟩
theorem fo155 : FOK Tryz.prog 155 fi155 := ⟨Tryz.f155, Tryz.func155, by rfl, trivial, by rfl, by rfl, by kernel_rfl⟩
theorem fo156 : FOK Tryz.prog 156 fi156 := ⟨Tryz.f156, Tryz.func156, by rfl, trivial, by rfl, by rfl, by kernel_rfl⟩
theorem fo157 : FOK Tryz.prog 157 fi157 := ⟨Tryz.f157, Tryz.func157, by rfl, trivial, by rfl, by rfl, by kernel_rfl⟩
theorem fo168 : FOK Tryz.prog 168 fi168 := ⟨Tryz.f168, Tryz.func168, by rfl, trivial, by rfl, by rfl, by kernel_rfl⟩
theorem fo169 : FOK Tryz.prog 169 fi169 := ⟨Tryz.f169, Tryz.func169, by rfl, trivial, by rfl, by rfl, by kernel_rfl⟩
theorem fo172 : FOK Tryz.prog 172 fi172 := ⟨Tryz.f172, Tryz.func172, by rfl, trivial, by rfl, by rfl, by kernel_rfl⟩
theorem fo173 : FOK Tryz.prog 173 fi173 := ⟨Tryz.f173, Tryz.func173, by rfl, trivial, by rfl, by rfl, by kernel_rfl⟩
theorem fo220 : FOK Tryz.prog 220 fi220 := ⟨Tryz.f220, Tryz.func220, by rfl, trivial, by rfl, by rfl, by kernel_rfl⟩
theorem fo227 : FOK Tryz.prog 227 fi227 := ⟨Tryz.f227, Tryz.func227, by rfl, trivial, by rfl, by rfl, by kernel_rfl⟩
theorem fo228 : FOK Tryz.prog 228 fi228 := ⟨Tryz.f228, Tryz.func228, by rfl, trivial, by rfl, by rfl, by kernel_rfl⟩
theorem fo229 : FOK Tryz.prog 229 fi229 := ⟨Tryz.f229, Tryz.func229, by rfl, trivial, by rfl, by rfl, by kernel_rfl⟩
theorem fo230 : FOK Tryz.prog 230 fi230 := ⟨Tryz.f230, Tryz.func230, by rfl, trivial, by rfl, by rfl, by kernel_rfl⟩
theorem fo231 : FOK Tryz.prog 231 fi231 := ⟨Tryz.f231, Tryz.func231, by rfl, trivial, by rfl, by rfl, by kernel_rfl⟩
theorem fo232 : FOK Tryz.prog 232 fi232 := ⟨Tryz.f232, Tryz.func232, by rfl, trivial, by rfl, by rfl, by kernel_rfl⟩
theorem fo233 : FOK Tryz.prog 233 fi233 := ⟨Tryz.f233, Tryz.func233, by rfl, trivial, by rfl, by rfl, by kernel_rfl⟩
theorem fo234 : FOK Tryz.prog 234 fi234 := ⟨Tryz.f234, Tryz.func234, by rfl, trivial, by rfl, by rfl, by kernel_rfl⟩
theorem fo235 : FOK Tryz.prog 235 fi235 := ⟨Tryz.f235, Tryz.func235, by rfl, trivial, by rfl, by rfl, by kernel_rfl⟩
theorem fo236 : FOK Tryz.prog 236 fi236 := ⟨Tryz.f236, Tryz.func236, by rfl, trivial, by rfl, by rfl, by kernel_rfl⟩
theorem fo237 : FOK Tryz.prog 237 fi237 := ⟨Tryz.f237, Tryz.func237, by rfl, trivial, by rfl, by rfl, by kernel_rfl⟩
theorem fo238 : FOK Tryz.prog 238 fi238 := ⟨Tryz.f238, Tryz.func238, by rfl, trivial, by rfl, by rfl, by kernel_rfl⟩
theorem fo239 : FOK Tryz.prog 239 fi239 := ⟨Tryz.f239, Tryz.func239, by rfl, trivial, by rfl, by rfl, by kernel_rfl⟩
theorem fo240 : FOK Tryz.prog 240 fi240 := ⟨Tryz.f240, Tryz.func240, by rfl, trivial, by rfl, by rfl, by kernel_rfl⟩
theorem fo241 : FOK Tryz.prog 241 fi241 := ⟨Tryz.f241, Tryz.func241, by rfl, trivial, by rfl, by rfl, by kernel_rfl⟩
theorem fo242 : FOK Tryz.prog 242 fi242 := ⟨Tryz.f242, Tryz.func242, by rfl, trivial, by rfl, by rfl, by kernel_rfl⟩
theorem fo243 : FOK Tryz.prog 243 fi243 := ⟨Tryz.f243, Tryz.func243, by rfl, trivial, by rfl, by rfl, by kernel_rfl⟩
theorem fo244 : FOK Tryz.prog 244 fi244 := ⟨Tryz.f244, Tryz.func244, by rfl, trivial, by rfl, by rfl, by kernel_rfl⟩
theorem fo245 : FOK Tryz.prog 245 fi245 := ⟨Tryz.f245, Tryz.func245, by rfl, trivial, by rfl, by rfl, by kernel_rfl⟩
theorem fo246 : FOK Tryz.prog 246 fi246 := ⟨Tryz.f246, Tryz.func246, by rfl, trivial, by rfl, by rfl, by kernel_rfl⟩
theorem fo247 : FOK Tryz.prog 247 fi247 := ⟨Tryz.f247, Tryz.func247, by rfl, trivial, by rfl, by rfl, by kernel_rfl⟩
theorem fo248 : FOK Tryz.prog 248 fi248 := ⟨Tryz.f248, Tryz.func248, by rfl, trivial, by rfl, by rfl, by kernel_rfl⟩
theorem fo249 : FOK Tryz.prog 249 fi249 := ⟨Tryz.f249, Tryz.func249, by rfl, trivial, by rfl, by rfl, by kernel_rfl⟩
theorem fo250 : FOK Tryz.prog 250 fi250 := ⟨Tryz.f250, Tryz.func250, by rfl, trivial, by rfl, by rfl, by kernel_rfl⟩
theorem fo251 : FOK Tryz.prog 251 fi251 := ⟨Tryz.f251, Tryz.func251, by rfl, trivial, by rfl, by rfl, by kernel_rfl⟩
theorem fo252 : FOK Tryz.prog 252 fi252 := ⟨Tryz.f252, Tryz.func252, by rfl, trivial, by rfl, by rfl, by kernel_rfl⟩
theorem fo253 : FOK Tryz.prog 253 fi253 := ⟨Tryz.f253, Tryz.func253, by rfl, trivial, by rfl, by rfl, by kernel_rfl⟩
theorem fo254 : FOK Tryz.prog 254 fi254 := ⟨Tryz.f254, Tryz.func254, by rfl, trivial, by rfl, by rfl, by kernel_rfl⟩
theorem fo255 : FOK Tryz.prog 255 fi255 := ⟨Tryz.f255, Tryz.func255, by rfl, trivial, by rfl, by rfl, by kernel_rfl⟩
theorem fo256 : FOK Tryz.prog 256 fi256 := ⟨Tryz.f256, Tryz.func256, by rfl, trivial, by rfl, by rfl, by kernel_rfl⟩
theorem fo257 : FOK Tryz.prog 257 fi257 := ⟨Tryz.f257, Tryz.func257, by rfl, trivial, by rfl, by rfl, by kernel_rfl⟩
theorem fo258 : FOK Tryz.prog 258 fi258 := ⟨Tryz.f258, Tryz.func258, by rfl, trivial, by rfl, by rfl, by kernel_rfl⟩
theorem fo259 : FOK Tryz.prog 259 fi259 := ⟨Tryz.f259, Tryz.func259, by rfl, trivial, by rfl, by rfl, by kernel_rfl⟩
theorem fo260 : FOK Tryz.prog 260 fi260 := ⟨Tryz.f260, Tryz.func260, by rfl, trivial, by rfl, by rfl, by kernel_rfl⟩
theorem fo261 : FOK Tryz.prog 261 fi261 := ⟨Tryz.f261, Tryz.func261, by rfl, trivial, by rfl, by rfl, by kernel_rfl⟩
theorem fo262 : FOK Tryz.prog 262 fi262 := ⟨Tryz.f262, Tryz.func262, by rfl, trivial, by rfl, by rfl, by kernel_rfl⟩
theorem fo263 : FOK Tryz.prog 263 fi263 := ⟨Tryz.f263, Tryz.func263, by rfl, trivial, by rfl, by rfl, by kernel_rfl⟩
theorem fo264 : FOK Tryz.prog 264 fi264 := ⟨Tryz.f264, Tryz.func264, by rfl, trivial, by rfl, by rfl, by kernel_rfl⟩
theorem fo265 : FOK Tryz.prog 265 fi265 := ⟨Tryz.f265, Tryz.func265, by rfl, trivial, by rfl, by rfl, by kernel_rfl⟩
theorem fo266 : FOK Tryz.prog 266 fi266 := ⟨Tryz.f266, Tryz.func266, by rfl, trivial, by rfl, by rfl, by kernel_rfl⟩
theorem fo267 : FOK Tryz.prog 267 fi267 := ⟨Tryz.f267, Tryz.func267, by rfl, trivial, by rfl, by rfl, by kernel_rfl⟩
theorem fo268 : FOK Tryz.prog 268 fi268 := ⟨Tryz.f268, Tryz.func268, by rfl, trivial, by rfl, by rfl, by kernel_rfl⟩
theorem fo269 : FOK Tryz.prog 269 fi269 := ⟨Tryz.f269, Tryz.func269, by rfl, trivial, by rfl, by rfl, by kernel_rfl⟩
theorem fo270 : FOK Tryz.prog 270 fi270 := ⟨Tryz.f270, Tryz.func270, by rfl, trivial, by rfl, by rfl, by kernel_rfl⟩
theorem fo271 : FOK Tryz.prog 271 fi271 := ⟨Tryz.f271, Tryz.func271, by rfl, trivial, by rfl, by rfl, by kernel_rfl⟩
theorem fo272 : FOK Tryz.prog 272 fi272 := ⟨Tryz.f272, Tryz.func272, by rfl, trivial, by rfl, by rfl, by kernel_rfl⟩
theorem fo273 : FOK Tryz.prog 273 fi273 := ⟨Tryz.f273, Tryz.func273, by rfl, trivial, by rfl, by rfl, by kernel_rfl⟩
theorem fo274 : FOK Tryz.prog 274 fi274 := ⟨Tryz.f274, Tryz.func274, by rfl, trivial, by rfl, by rfl, by kernel_rfl⟩
theorem fo275 : FOK Tryz.prog 275 fi275 := ⟨Tryz.f275, Tryz.func275, by rfl, trivial, by rfl, by rfl, by kernel_rfl⟩
theorem fo276 : FOK Tryz.prog 276 fi276 := ⟨Tryz.f276, Tryz.func276, by rfl, trivial, by rfl, by rfl, by kernel_rfl⟩
theorem fo277 : FOK Tryz.prog 277 fi277 := ⟨Tryz.f277, Tryz.func277, by rfl, trivial, by rfl, by rfl, by kernel_rfl⟩
theorem fo278 : FOK Tryz.prog 278 fi278 := ⟨Tryz.f278, Tryz.func278, by rfl, trivial, by rfl, by rfl, by kernel_rfl⟩
theorem fo279 : FOK Tryz.prog 279 fi279 := ⟨Tryz.f279, Tryz.func279, by rfl, trivial, by rfl, by rfl, by kernel_rfl⟩
theorem fo280 : FOK Tryz.prog 280 fi280 := ⟨Tryz.f280, Tryz.func280, by rfl, trivial, by rfl, by rfl, by kernel_rfl⟩
theorem fo281 : FOK Tryz.prog 281 fi281 := ⟨Tryz.f281, Tryz.func281, by rfl, trivial, by rfl, by rfl, by kernel_rfl⟩
theorem fo282 : FOK Tryz.prog 282 fi282 := ⟨Tryz.f282, Tryz.func282, by rfl, trivial, by rfl, by rfl, by kernel_rfl⟩
theorem fo283 : FOK Tryz.prog 283 fi283 := ⟨Tryz.f283, Tryz.func283, by rfl, trivial, by rfl, by rfl, by kernel_rfl⟩
theorem fo289 : FOK Tryz.prog 289 fi289 := ⟨Tryz.f289, Tryz.func289, by rfl, trivial, by rfl, by rfl, by kernel_rfl⟩
theorem fo290 : FOK Tryz.prog 290 fi290 := ⟨Tryz.f290, Tryz.func290, by rfl, trivial, by rfl, by rfl, by kernel_rfl⟩
theorem fo291 : FOK Tryz.prog 291 fi291 := ⟨Tryz.f291, Tryz.func291, by rfl, trivial, by rfl, by rfl, by kernel_rfl⟩
theorem fo316 : FOK Tryz.prog 316 fi316 := ⟨Tryz.f316, Tryz.func316, by rfl, trivial, by rfl, by rfl, by kernel_rfl⟩
theorem fo317 : FOK Tryz.prog 317 fi317 := ⟨Tryz.f317, Tryz.func317, by rfl, trivial, by rfl, by rfl, by kernel_rfl⟩
theorem fo320 : FOK Tryz.prog 320 fi320 := ⟨Tryz.f320, Tryz.func320, by rfl, trivial, by rfl, by rfl, by kernel_rfl⟩
theorem fo321 : FOK Tryz.prog 321 fi321 := ⟨Tryz.f321, Tryz.func321, by rfl, trivial, by rfl, by rfl, by kernel_rfl⟩
theorem fo322 : FOK Tryz.prog 322 fi322 := ⟨Tryz.f322, Tryz.func322, by rfl, trivial, by rfl, by rfl, by kernel_rfl⟩
theorem fo323 : FOK Tryz.prog 323 fi323 := ⟨Tryz.f323, Tryz.func323, by rfl, trivial, by rfl, by rfl, by kernel_rfl⟩
theorem fo324 : FOK Tryz.prog 324 fi324 := ⟨Tryz.f324, Tryz.func324, by rfl, trivial, by rfl, by rfl, by kernel_rfl⟩
theorem fo325 : FOK Tryz.prog 325 fi325 := ⟨Tryz.f325, Tryz.func325, by rfl, trivial, by rfl, by rfl, by kernel_rfl⟩
theorem fo326 : FOK Tryz.prog 326 fi326 := ⟨Tryz.f326, Tryz.func326, by rfl, trivial, by rfl, by rfl, by kernel_rfl⟩
theorem fo327 : FOK Tryz.prog 327 fi327 := ⟨Tryz.f327, Tryz.func327, by rfl, trivial, by rfl, by rfl, by kernel_rfl⟩
theorem fo328 : FOK Tryz.prog 328 fi328 := ⟨Tryz.f328, Tryz.func328, by rfl, trivial, by rfl, by rfl, by kernel_rfl⟩
theorem fo329 : FOK Tryz.prog 329 fi329 := ⟨Tryz.f329, Tryz.func329, by rfl, trivial, by rfl, by rfl, by kernel_rfl⟩
theorem fo330 : FOK Tryz.prog 330 fi330 := ⟨Tryz.f330, Tryz.func330, by rfl, trivial, by rfl, by rfl, by kernel_rfl⟩
theorem fo331 : FOK Tryz.prog 331 fi331 := ⟨Tryz.f331, Tryz.func331, by rfl, trivial, by rfl, by rfl, by kernel_rfl⟩
theorem fo332 : FOK Tryz.prog 332 fi332 := ⟨Tryz.f332, Tryz.func332, by rfl, trivial, by rfl, by rfl, by kernel_rfl⟩
theorem fo333 : FOK Tryz.prog 333 fi333 := ⟨Tryz.f333, Tryz.func333, by rfl, trivial, by rfl, by rfl, by kernel_rfl⟩
theorem fo334 : FOK Tryz.prog 334 fi334 := ⟨Tryz.f334, Tryz.func334, by rfl, trivial, by rfl, by rfl, by kernel_rfl⟩
theorem fo335 : FOK Tryz.prog 335 fi335 := ⟨Tryz.f335, Tryz.func335, by rfl, trivial, by rfl, by rfl, by kernel_rfl⟩
theorem fo336 : FOK Tryz.prog 336 fi336 := ⟨Tryz.f336, Tryz.func336, by rfl, trivial, by rfl, by rfl, by kernel_rfl⟩
theorem fo337 : FOK Tryz.prog 337 fi337 := ⟨Tryz.f337, Tryz.func337, by rfl, trivial, by rfl, by rfl, by kernel_rfl⟩
theorem fo338 : FOK Tryz.prog 338 fi338 := ⟨Tryz.f338, Tryz.func338, by rfl, trivial, by rfl, by rfl, by kernel_rfl⟩
theorem fo339 : FOK Tryz.prog 339 fi339 := ⟨Tryz.f339, Tryz.func339, by rfl, trivial, by rfl, by rfl, by kernel_rfl⟩
theorem fo340 : FOK Tryz.prog 340 fi340 := ⟨Tryz.f340, Tryz.func340, by rfl, trivial, by rfl, by rfl, by kernel_rfl⟩
theorem fo356 : FOK Tryz.prog 356 fi356 := ⟨Tryz.f356, Tryz.func356, by rfl, trivial, by rfl, by rfl, by kernel_rfl⟩
theorem fo357 : FOK Tryz.prog 357 fi357 := ⟨Tryz.f357, Tryz.func357, by rfl, trivial, by rfl, by rfl, by kernel_rfl⟩
theorem fo358 : FOK Tryz.prog 358 fi358 := ⟨Tryz.f358, Tryz.func358, by rfl, trivial, by rfl, by rfl, by kernel_rfl⟩
theorem fo359 : FOK Tryz.prog 359 fi359 := ⟨Tryz.f359, Tryz.func359, by rfl, trivial, by rfl, by rfl, by kernel_rfl⟩
theorem fo360 : FOK Tryz.prog 360 fi360 := ⟨Tryz.f360, Tryz.func360, by rfl, trivial, by rfl, by rfl, by kernel_rfl⟩
theorem fo361 : FOK Tryz.prog 361 fi361 := ⟨Tryz.f361, Tryz.func361, by rfl, trivial, by rfl, by rfl, by kernel_rfl⟩
theorem fo362 : FOK Tryz.prog 362 fi362 := ⟨Tryz.f362, Tryz.func362, by rfl, trivial, by rfl, by rfl, by kernel_rfl⟩
theorem fo367 : FOK Tryz.prog 367 fi367 := ⟨Tryz.f367, Tryz.func367, by rfl, trivial, by rfl, by rfl, by kernel_rfl⟩
theorem fo368 : FOK Tryz.prog 368 fi368 := ⟨Tryz.f368, Tryz.func368, by rfl, trivial, by rfl, by rfl, by kernel_rfl⟩
theorem fo369 : FOK Tryz.prog 369 fi369 := ⟨Tryz.f369, Tryz.func369, by rfl, trivial, by rfl, by rfl, by kernel_rfl⟩
theorem fo370 : FOK Tryz.prog 370 fi370 := ⟨Tryz.f370, Tryz.func370, by rfl, trivial, by rfl, by rfl, by kernel_rfl⟩
theorem fo371 : FOK Tryz.prog 371 fi371 := ⟨Tryz.f371, Tryz.func371, by rfl, trivial, by rfl, by rfl, by kernel_rfl⟩
theorem fo372 : FOK Tryz.prog 372 fi372 := ⟨Tryz.f372, Tryz.func372, by rfl, trivial, by rfl, by rfl, by kernel_rfl⟩
theorem fo373 : FOK Tryz.prog 373 fi373 := ⟨Tryz.f373, Tryz.func373, by rfl, trivial, by rfl, by rfl, by kernel_rfl⟩
theorem fo374 : FOK Tryz.prog 374 fi374 := ⟨Tryz.f374, Tryz.func374, by rfl, trivial, by rfl, by rfl, by kernel_rfl⟩
theorem fo375 : FOK Tryz.prog 375 fi375 := ⟨Tryz.f375, Tryz.func375, by rfl, trivial, by rfl, by rfl, by kernel_rfl⟩
theorem fo376 : FOK Tryz.prog 376 fi376 := ⟨Tryz.f376, Tryz.func376, by rfl, trivial, by rfl, by rfl, by kernel_rfl⟩
theorem fo377 : FOK Tryz.prog 377 fi377 := ⟨Tryz.f377, Tryz.func377, by rfl, trivial, by rfl, by rfl, by kernel_rfl⟩
theorem fo378 : FOK Tryz.prog 378 fi378 := ⟨Tryz.f378, Tryz.func378, by rfl, trivial, by rfl, by rfl, by kernel_rfl⟩
theorem fo379 : FOK Tryz.prog 379 fi379 := ⟨Tryz.f379, Tryz.func379, by rfl, trivial, by rfl, by rfl, by kernel_rfl⟩
theorem fo380 : FOK Tryz.prog 380 fi380 := ⟨Tryz.f380, Tryz.func380, by rfl, trivial, by rfl, by rfl, by kernel_rfl⟩
theorem fo381 : FOK Tryz.prog 381 fi381 := ⟨Tryz.f381, Tryz.func381, by rfl, trivial, by rfl, by rfl, by kernel_rfl⟩
theorem fo382 : FOK Tryz.prog 382 fi382 := ⟨Tryz.f382, Tryz.func382, by rfl, trivial, by rfl, by rfl, by kernel_rfl⟩
theorem fo383 : FOK Tryz.prog 383 fi383 := ⟨Tryz.f383, Tryz.func383, by rfl, trivial, by rfl, by rfl, by kernel_rfl⟩
theorem fo384 : FOK Tryz.prog 384 fi384 := ⟨Tryz.f384, Tryz.func384, by rfl, trivial, by rfl, by rfl, by kernel_rfl⟩
theorem fo385 : FOK Tryz.prog 385 fi385 := ⟨Tryz.f385, Tryz.func385, by rfl, trivial, by rfl, by rfl, by kernel_rfl⟩
theorem fo386 : FOK Tryz.prog 386 fi386 := ⟨Tryz.f386, Tryz.func386, by rfl, trivial, by rfl, by rfl, by kernel_rfl⟩
theorem fo387 : FOK Tryz.prog 387 fi387 := ⟨Tryz.f387, Tryz.func387, by rfl, trivial, by rfl, by rfl, by kernel_rfl⟩
theorem fo388 : FOK Tryz.prog 388 fi388 := ⟨Tryz.f388, Tryz.func388, by rfl, trivial, by rfl, by rfl, by kernel_rfl⟩
theorem fo389 : FOK Tryz.prog 389 fi389 := ⟨Tryz.f389, Tryz.func389, by rfl, trivial, by rfl, by rfl, by kernel_rfl⟩
theorem fo390 : FOK Tryz.prog 390 fi390 := ⟨Tryz.f390, Tryz.func390, by rfl, trivial, by rfl, by rfl, by kernel_rfl⟩
theorem fo391 : FOK Tryz.prog 391 fi391 := ⟨Tryz.f391, Tryz.func391, by rfl, trivial, by rfl, by rfl, by kernel_rfl⟩
theorem fo392 : FOK Tryz.prog 392 fi392 := ⟨Tryz.f392, Tryz.func392, by rfl, trivial, by rfl, by rfl, by kernel_rfl⟩
theorem fo393 : FOK Tryz.prog 393 fi393 := ⟨Tryz.f393, Tryz.func393, by rfl, trivial, by rfl, by rfl, by kernel_rfl⟩
theorem fo394 : FOK Tryz.prog 394 fi394 := ⟨Tryz.f394, Tryz.func394, by rfl, trivial, by rfl, by rfl, by kernel_rfl⟩
theorem fo395 : FOK Tryz.prog 395 fi395 := ⟨Tryz.f395, Tryz.func395, by rfl, trivial, by rfl, by rfl, by kernel_rfl⟩
theorem fo396 : FOK Tryz.prog 396 fi396 := ⟨Tryz.f396, Tryz.func396, by rfl, trivial, by rfl, by rfl, by kernel_rfl⟩
theorem fo397 : FOK Tryz.prog 397 fi397 := ⟨Tryz.f397, Tryz.func397, by rfl, trivial, by rfl, by rfl, by kernel_rfl⟩
omit [Bet] in
theorem tab_all : AllT (TOK Tryz.prog) tab := ⟨⟨⟨⟨⟨trivial, ⟨⟨trivial, ⟨trivial, ⟨to208, trivial⟩⟩⟩, trivial⟩⟩, ⟨⟨trivial, ⟨⟨trivial, ⟨trivial, to424⟩⟩, trivial⟩⟩, trivial⟩⟩, ⟨⟨⟨⟨⟨⟨to4, trivial⟩, trivial⟩, trivial⟩, ⟨trivial, ⟨⟨to100, trivial⟩, trivial⟩⟩⟩, ⟨⟨trivial, ⟨⟨to84, trivial⟩, trivial⟩⟩, ⟨⟨⟨to52, trivial⟩, trivial⟩, trivial⟩⟩⟩, ⟨⟨trivial, ⟨⟨⟨to44, trivial⟩, trivial⟩, trivial⟩⟩, ⟨trivial, ⟨⟨trivial, ⟨to188, trivial⟩⟩, trivial⟩⟩⟩⟩⟩, ⟨⟨⟨⟨⟨⟨⟨to2, trivial⟩, ⟨trivial, to386⟩⟩, trivial⟩, ⟨⟨⟨to34, trivial⟩, trivial⟩, ⟨trivial, ⟨to226, trivial⟩⟩⟩⟩, ⟨trivial, ⟨⟨⟨trivial, to306⟩, trivial⟩, trivial⟩⟩⟩, ⟨⟨⟨⟨trivial, ⟨to138, trivial⟩⟩, trivial⟩, ⟨⟨trivial, ⟨trivial, to426⟩⟩, trivial⟩⟩, ⟨⟨⟨⟨to26, trivial⟩, trivial⟩, ⟨trivial, ⟨to218, trivial⟩⟩⟩, ⟨trivial, ⟨⟨trivial, to378⟩, trivial⟩⟩⟩⟩⟩, ⟨⟨trivial, ⟨⟨⟨⟨to22, trivial⟩, trivial⟩, trivial⟩, trivial⟩⟩, trivial⟩⟩⟩, ⟨⟨⟨⟨⟨⟨⟨trivial, ⟨to129, trivial⟩⟩, trivial⟩, ⟨⟨trivial, ⟨trivial, to417⟩⟩, ⟨trivial, ⟨to225, trivial⟩⟩⟩⟩, ⟨trivial, ⟨⟨trivial, ⟨to177, to433⟩⟩, trivial⟩⟩⟩, ⟨⟨⟨⟨⟨to9, trivial⟩, ⟨to137, trivial⟩⟩, trivial⟩, ⟨trivial, ⟨⟨to105, trivial⟩, trivial⟩⟩⟩, ⟨⟨⟨⟨to25, trivial⟩, trivial⟩, trivial⟩, ⟨trivial, ⟨⟨trivial, to377⟩, trivial⟩⟩⟩⟩⟩, ⟨⟨⟨⟨⟨⟨to5, trivial⟩, ⟨to133, trivial⟩⟩, trivial⟩, trivial⟩, ⟨trivial, ⟨⟨⟨to53, trivial⟩, trivial⟩, ⟨⟨trivial, to373⟩, trivial⟩⟩⟩⟩, ⟨trivial, ⟨⟨⟨⟨to29, trivial⟩, trivial⟩, trivial⟩, ⟨trivial, ⟨⟨trivial, to381⟩, trivial⟩⟩⟩⟩⟩⟩, ⟨⟨⟨⟨⟨⟨⟨to3, trivial⟩, trivial⟩, trivial⟩, ⟨⟨⟨to35, trivial⟩, trivial⟩, trivial⟩⟩, ⟨trivial, ⟨trivial, ⟨⟨to115, trivial⟩, trivial⟩⟩⟩⟩, ⟨⟨trivial, ⟨⟨trivial, ⟨to171, trivial⟩⟩, trivial⟩⟩, ⟨⟨⟨trivial, ⟨trivial, to411⟩⟩, trivial⟩, ⟨⟨⟨to59, trivial⟩, trivial⟩, trivial⟩⟩⟩⟩, ⟨⟨⟨⟨⟨trivial, ⟨to135, trivial⟩⟩, trivial⟩, ⟨⟨⟨to39, trivial⟩, trivial⟩, ⟨⟨to103, trivial⟩, trivial⟩⟩⟩, ⟨⟨⟨⟨to23, trivial⟩, trivial⟩, trivial⟩, trivial⟩⟩, ⟨⟨⟨trivial, ⟨⟨to79, trivial⟩, trivial⟩⟩, ⟨trivial, ⟨⟨to111, trivial⟩, trivial⟩⟩⟩, ⟨⟨⟨trivial, ⟨trivial, to415⟩⟩, ⟨trivial, ⟨to223, trivial⟩⟩⟩, trivial⟩⟩⟩⟩⟩⟩
theorem fnsB_all : AllT (FOK Tryz.prog) fnsB := ⟨⟨⟨⟨⟨⟨⟨⟨⟨trivial, fo256⟩, ⟨fo128, fo384⟩⟩, ⟨⟨fo64, fo320⟩, trivial⟩⟩, ⟨⟨⟨fo32, trivial⟩, trivial⟩, trivial⟩⟩, ⟨⟨⟨⟨fo16, fo272⟩, ⟨fo144, trivial⟩⟩, ⟨⟨trivial, fo336⟩, trivial⟩⟩, ⟨trivial, ⟨⟨fo112, fo368⟩, ⟨fo240, trivial⟩⟩⟩⟩⟩, ⟨⟨⟨⟨⟨trivial, fo264⟩, ⟨fo136, fo392⟩⟩, ⟨⟨trivial, fo328⟩, trivial⟩⟩, ⟨⟨trivial, ⟨fo168, trivial⟩⟩, ⟨⟨fo104, fo360⟩, ⟨fo232, trivial⟩⟩⟩⟩, ⟨⟨⟨⟨trivial, fo280⟩, ⟨fo152, trivial⟩⟩, trivial⟩, ⟨⟨⟨fo56, trivial⟩, trivial⟩, ⟨⟨fo120, fo376⟩, ⟨fo248, trivial⟩⟩⟩⟩⟩⟩, ⟨⟨⟨⟨⟨⟨trivial, fo260⟩, ⟨fo132, fo388⟩⟩, ⟨⟨fo68, fo324⟩, trivial⟩⟩, ⟨trivial, ⟨⟨fo100, fo356⟩, ⟨fo228, trivial⟩⟩⟩⟩, ⟨⟨⟨⟨trivial, fo276⟩, ⟨fo148, trivial⟩⟩, ⟨⟨trivial, fo340⟩, trivial⟩⟩, ⟨⟨⟨fo52, trivial⟩, trivial⟩, ⟨⟨fo116, fo372⟩, ⟨fo244, trivial⟩⟩⟩⟩⟩, ⟨⟨⟨⟨⟨fo12, fo268⟩, ⟨fo140, fo396⟩⟩, ⟨⟨fo76, fo332⟩, trivial⟩⟩, ⟨⟨trivial, ⟨fo172, trivial⟩⟩, ⟨⟨fo108, trivial⟩, ⟨fo236, trivial⟩⟩⟩⟩, ⟨⟨⟨⟨fo28, trivial⟩, ⟨fo156, trivial⟩⟩, ⟨trivial, ⟨fo220, trivial⟩⟩⟩, ⟨⟨⟨fo60, fo316⟩, trivial⟩, ⟨⟨fo124, fo380⟩, ⟨fo252, trivial⟩⟩⟩⟩⟩⟩⟩, ⟨⟨⟨⟨⟨⟨⟨trivial, fo258⟩, ⟨fo130, fo386⟩⟩, ⟨⟨trivial, fo322⟩, trivial⟩⟩, ⟨⟨⟨fo34, fo290⟩, trivial⟩, ⟨⟨fo98, trivial⟩, trivial⟩⟩⟩, ⟨⟨⟨⟨fo18, fo274⟩, ⟨fo146, trivial⟩⟩, ⟨⟨trivial, fo338⟩, trivial⟩⟩, ⟨⟨⟨fo50, trivial⟩, trivial⟩, ⟨⟨fo114, fo370⟩, ⟨fo242, trivial⟩⟩⟩⟩⟩, ⟨⟨⟨⟨⟨fo10, fo266⟩, ⟨fo138, fo394⟩⟩, ⟨⟨fo74, fo330⟩, trivial⟩⟩, ⟨trivial, ⟨⟨fo106, fo362⟩, ⟨fo234, trivial⟩⟩⟩⟩, ⟨⟨⟨⟨trivial, fo282⟩, ⟨fo154, trivial⟩⟩, trivial⟩, ⟨trivial, ⟨⟨fo122, fo378⟩, ⟨fo250, trivial⟩⟩⟩⟩⟩⟩, ⟨⟨⟨⟨⟨⟨trivial, fo262⟩, ⟨fo134, fo390⟩⟩, ⟨⟨trivial, fo326⟩, trivial⟩⟩, ⟨trivial, ⟨⟨fo102, fo358⟩, ⟨fo230, trivial⟩⟩⟩⟩, ⟨⟨⟨⟨trivial, fo278⟩, ⟨fo150, trivial⟩⟩, trivial⟩, ⟨⟨⟨fo54, trivial⟩, trivial⟩, ⟨⟨fo118, fo374⟩, ⟨fo246, trivial⟩⟩⟩⟩⟩, ⟨⟨⟨⟨⟨trivial, fo270⟩, ⟨fo142, trivial⟩⟩, ⟨⟨trivial, fo334⟩, trivial⟩⟩, ⟨trivial, ⟨⟨fo110, trivial⟩, ⟨fo238, trivial⟩⟩⟩⟩, ⟨trivial, ⟨⟨⟨fo62, trivial⟩, trivial⟩, ⟨⟨fo126, fo382⟩, ⟨fo254, trivial⟩⟩⟩⟩⟩⟩⟩⟩, ⟨⟨⟨⟨⟨⟨⟨⟨trivial, fo257⟩, ⟨fo129, fo385⟩⟩, ⟨⟨trivial, fo321⟩, trivial⟩⟩, ⟨⟨⟨trivial, fo289⟩, trivial⟩, ⟨⟨fo97, trivial⟩, trivial⟩⟩⟩, ⟨⟨⟨⟨trivial, fo273⟩, ⟨fo145, trivial⟩⟩, ⟨⟨trivial, fo337⟩, trivial⟩⟩, ⟨trivial, ⟨⟨fo113, fo369⟩, ⟨fo241, trivial⟩⟩⟩⟩⟩, ⟨⟨⟨⟨⟨trivial, fo265⟩, ⟨fo137, fo393⟩⟩, ⟨⟨trivial, fo329⟩, trivial⟩⟩, ⟨⟨trivial, ⟨fo169, trivial⟩⟩, ⟨⟨fo105, fo361⟩, ⟨fo233, trivial⟩⟩⟩⟩, ⟨⟨⟨⟨trivial, fo281⟩, ⟨fo153, trivial⟩⟩, trivial⟩, ⟨trivial, ⟨⟨fo121, fo377⟩, ⟨fo249, trivial⟩⟩⟩⟩⟩⟩, ⟨⟨⟨⟨⟨⟨trivial, fo261⟩, ⟨fo133, fo389⟩⟩, ⟨⟨fo69, fo325⟩, trivial⟩⟩, ⟨trivial, ⟨⟨fo101, fo357⟩, ⟨fo229, trivial⟩⟩⟩⟩, ⟨⟨⟨⟨trivial, fo277⟩, ⟨fo149, trivial⟩⟩, trivial⟩, ⟨⟨⟨fo53, trivial⟩, trivial⟩, ⟨⟨fo117, fo373⟩, ⟨fo245, trivial⟩⟩⟩⟩⟩, ⟨⟨⟨⟨⟨fo13, fo269⟩, ⟨fo141, fo397⟩⟩, ⟨⟨trivial, fo333⟩, trivial⟩⟩, ⟨⟨trivial, ⟨fo173, trivial⟩⟩, ⟨⟨fo109, trivial⟩, ⟨fo237, trivial⟩⟩⟩⟩, ⟨⟨⟨⟨fo29, trivial⟩, ⟨fo157, trivial⟩⟩, trivial⟩, ⟨⟨⟨fo61, fo317⟩, trivial⟩, ⟨⟨fo125, fo381⟩, ⟨fo253, trivial⟩⟩⟩⟩⟩⟩⟩, ⟨⟨⟨⟨⟨⟨⟨trivial, fo259⟩, ⟨fo131, fo387⟩⟩, ⟨⟨fo67, fo323⟩, trivial⟩⟩, ⟨⟨⟨trivial, fo291⟩, trivial⟩, ⟨⟨fo99, trivial⟩, ⟨fo227, trivial⟩⟩⟩⟩, ⟨⟨⟨⟨fo19, fo275⟩, ⟨fo147, trivial⟩⟩, ⟨⟨trivial, fo339⟩, trivial⟩⟩, ⟨⟨⟨fo51, trivial⟩, trivial⟩, ⟨⟨fo115, fo371⟩, ⟨fo243, trivial⟩⟩⟩⟩⟩, ⟨⟨⟨⟨⟨fo11, fo267⟩, ⟨fo139, fo395⟩⟩, ⟨⟨fo75, fo331⟩, trivial⟩⟩, ⟨trivial, ⟨⟨fo107, trivial⟩, ⟨fo235, trivial⟩⟩⟩⟩, ⟨⟨⟨⟨fo27, fo283⟩, ⟨fo155, trivial⟩⟩, trivial⟩, ⟨⟨⟨fo59, trivial⟩, trivial⟩, ⟨⟨fo123, fo379⟩, ⟨fo251, trivial⟩⟩⟩⟩⟩⟩, ⟨⟨⟨⟨⟨⟨trivial, fo263⟩, ⟨fo135, fo391⟩⟩, ⟨⟨trivial, fo327⟩, trivial⟩⟩, ⟨trivial, ⟨⟨fo103, fo359⟩, ⟨fo231, trivial⟩⟩⟩⟩, ⟨⟨⟨⟨trivial, fo279⟩, ⟨fo151, trivial⟩⟩, trivial⟩, ⟨⟨⟨fo55, trivial⟩, trivial⟩, ⟨⟨fo119, fo375⟩, ⟨fo247, trivial⟩⟩⟩⟩⟩, ⟨⟨⟨⟨⟨trivial, fo271⟩, ⟨fo143, trivial⟩⟩, ⟨⟨trivial, fo335⟩, trivial⟩⟩, ⟨trivial, ⟨⟨fo111, fo367⟩, ⟨fo239, trivial⟩⟩⟩⟩, ⟨trivial, ⟨⟨⟨fo63, trivial⟩, trivial⟩, ⟨⟨fo127, fo383⟩, ⟨fo255, trivial⟩⟩⟩⟩⟩⟩⟩⟩⟩
omit [Bet] in
theorem tabOKO {l : List (Nat × AV × AV × AV)} (h : OrcOK l) : TabOK (envO l) := ⟨fun _t _ti h => AllT.get tab_all h, h⟩
omit [Bet] in
theorem tabOK : TabOK env := tabOKO fun _ he => by cases he
theorem fnsBOK : FnsOK exeB := fun _f _fi h => AllT.get fnsB_all h
end Go.Proofs.YtibmpjhffeinoaaGreat.Kx
