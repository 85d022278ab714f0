/-
  The executor's soundness on this program; the loops over maps. Printed by gen_tf.py.
-/
import Derived.Test.YtibmpjhffeinoaaGreatTK
import Derived.Test.YtibmpjhffeinoaaGreatA6
namespace Go.Proofs.YtibmpjhffeinoaaGreat.Kx
open Go
variable [Val]

set_option maxRecDepth 100000
omit [Val] in
theorem exe0_mixed : Tryz.prog.follows .mixedOrders = true := by kernel_rfl
theorem exeB_sound [Bet] (n : Nat) : Sound exeB.E.P (run exeB n) := run_sound tabOK keysOK fnsBOK (fun _ _ _ _ _ h => by cases h) (drawK_sound tabOK keysOK exe0_mixed) n
omit [Val] in
theorem rl62_0_c : rl62_0.code = (subAt [true, true, true, true, true, false, true] (codeOf Tryz.f62)) := by kernel_rfl
omit [Val] in
theorem rl62_0_g : rl62_0.Good := ⟨by kernel_rfl, by kernel_rfl, by kernel_rfl, by kernel_rfl, by kernel_rfl, by kernel_rfl, by kernel_rfl, by kernel_rfl, by kernel_rfl⟩
theorem x62_c0 [Bet] : CutOK Tryz.prog (subAt [true, true, true, true, true, false, true] (codeOf Tryz.f62)) (rexpK exeB 1000 rl62_0 [2, 8, 70] [8]) := by
  rw [← rl62_0_c]
  exact rexp_ok tabOK keysOK (fun {_} => exeB_sound _) rl62_0_g
omit [Val] in
theorem xc62_r : Tryz.f62.body = some xc62.real := by kernel_rfl
theorem fco62 [Bet] : FOK Tryz.prog 62 fc62 := ⟨Tryz.f62, Tryz.func62, xc62_r, ⟨trivial, ⟨trivial, ⟨trivial, ⟨trivial, ⟨trivial, ⟨⟨trivial, x62_c0⟩, trivial⟩⟩⟩⟩⟩⟩, by rfl, by rfl, by kernel_rfl⟩
omit [Val] in
theorem rl146_0_c : rl146_0.code = (subAt [true, true, true, true, false, true] (codeOf Tryz.f146)) := by kernel_rfl
omit [Val] in
theorem rl146_0_g : rl146_0.Good := ⟨by kernel_rfl, by kernel_rfl, by kernel_rfl, by kernel_rfl, by kernel_rfl, by kernel_rfl, by kernel_rfl, by kernel_rfl, by kernel_rfl⟩
theorem x146_c0 [Bet] : CutOK Tryz.prog (subAt [true, true, true, true, false, true] (codeOf Tryz.f146)) (rdelK exeB 1000 rl146_0 [3, 50] [3]) := by
  rw [← rl146_0_c]
  exact rdel_ok tabOK keysOK (fun {_} => exeB_sound _) rl146_0_g
omit [Val] in
theorem xc146_r : Tryz.f146.body = some xc146.real := by kernel_rfl
theorem fco146 [Bet] : FOK Tryz.prog 146 fc146 := ⟨Tryz.f146, Tryz.func146, xc146_r, ⟨trivial, ⟨trivial, ⟨trivial, ⟨⟨trivial, x146_c0⟩, trivial⟩⟩⟩⟩, by rfl, by rfl, by kernel_rfl⟩
omit [Val] in
theorem rl236_0_c : rl236_0.code = (subAt [true, true, true, true, false, true, true, true, true, true, false, true, true, false, true, true, true, false, true] (codeOf Tryz.f236)) := by kernel_rfl
omit [Val] in
theorem rl236_0_g : rl236_0.Good := ⟨by kernel_rfl, by kernel_rfl, by kernel_rfl, by kernel_rfl, by kernel_rfl, by kernel_rfl, by kernel_rfl, by kernel_rfl, by kernel_rfl⟩
theorem x236_c0 [Bet] : CutOK Tryz.prog (subAt [true, true, true, true, false, true, true, true, true, true, false, true, true, false, true, true, true, false, true] (codeOf Tryz.f236)) (rexpK exeB 1000 rl236_0 [0, 7, 8, 10, 25, 26, 38] [7, 10]) := by
  rw [← rl236_0_c]
  exact rexp_ok tabOK keysOK (fun {_} => exeB_sound _) rl236_0_g
omit [Val] in
theorem xc236_r : Tryz.f236.body = some xc236.real := by kernel_rfl
theorem fco236 [Bet] : FOK Tryz.prog 236 fc236 := ⟨Tryz.f236, Tryz.func236, xc236_r, ⟨trivial, ⟨trivial, ⟨trivial, ⟨trivial, ⟨⟨trivial, ⟨trivial, ⟨trivial, ⟨⟨trivial, ⟨⟨trivial, ⟨⟨trivial, ⟨⟨trivial, x236_c0⟩, trivial⟩⟩, trivial⟩⟩, trivial⟩⟩, trivial⟩⟩⟩⟩, trivial⟩⟩⟩⟩⟩, by rfl, by rfl, by kernel_rfl⟩
theorem fns_all [Bet] : AllT (FOK Tryz.prog) fns := ⟨⟨⟨⟨⟨⟨⟨⟨⟨trivial, fo256⟩, ⟨fo128, fo384⟩⟩, ⟨⟨fo64, fo320⟩, trivial⟩⟩, ⟨⟨⟨fo32, trivial⟩, trivial⟩, trivial⟩⟩, ⟨⟨⟨⟨fo16, fo272⟩, ⟨fo144, trivial⟩⟩, ⟨⟨trivial, fo336⟩, trivial⟩⟩, ⟨trivial, ⟨⟨fo112, fo368⟩, ⟨fo240, trivial⟩⟩⟩⟩⟩, ⟨⟨⟨⟨⟨trivial, fo264⟩, ⟨fo136, fo392⟩⟩, ⟨⟨trivial, fo328⟩, trivial⟩⟩, ⟨⟨trivial, ⟨fo168, trivial⟩⟩, ⟨⟨fo104, fo360⟩, ⟨fo232, trivial⟩⟩⟩⟩, ⟨⟨⟨⟨trivial, fo280⟩, ⟨fo152, trivial⟩⟩, trivial⟩, ⟨⟨⟨fo56, trivial⟩, trivial⟩, ⟨⟨fo120, fo376⟩, ⟨fo248, trivial⟩⟩⟩⟩⟩⟩, ⟨⟨⟨⟨⟨⟨trivial, fo260⟩, ⟨fo132, fo388⟩⟩, ⟨⟨fo68, fo324⟩, trivial⟩⟩, ⟨trivial, ⟨⟨fo100, fo356⟩, ⟨fo228, trivial⟩⟩⟩⟩, ⟨⟨⟨⟨trivial, fo276⟩, ⟨fo148, trivial⟩⟩, ⟨⟨trivial, fo340⟩, trivial⟩⟩, ⟨⟨⟨fo52, trivial⟩, trivial⟩, ⟨⟨fo116, fo372⟩, ⟨fo244, trivial⟩⟩⟩⟩⟩, ⟨⟨⟨⟨⟨fo12, fo268⟩, ⟨fo140, fo396⟩⟩, ⟨⟨fo76, fo332⟩, trivial⟩⟩, ⟨⟨trivial, ⟨fo172, trivial⟩⟩, ⟨⟨fo108, trivial⟩, ⟨fco236, trivial⟩⟩⟩⟩, ⟨⟨⟨⟨fo28, trivial⟩, ⟨fo156, trivial⟩⟩, ⟨trivial, ⟨fo220, trivial⟩⟩⟩, ⟨⟨⟨fo60, fo316⟩, trivial⟩, ⟨⟨fo124, fo380⟩, ⟨fo252, trivial⟩⟩⟩⟩⟩⟩⟩, ⟨⟨⟨⟨⟨⟨⟨trivial, fo258⟩, ⟨fo130, fo386⟩⟩, ⟨⟨trivial, fo322⟩, trivial⟩⟩, ⟨⟨⟨fo34, fo290⟩, trivial⟩, ⟨⟨fo98, trivial⟩, trivial⟩⟩⟩, ⟨⟨⟨⟨fo18, fo274⟩, ⟨fco146, trivial⟩⟩, ⟨⟨trivial, fo338⟩, trivial⟩⟩, ⟨⟨⟨fo50, trivial⟩, trivial⟩, ⟨⟨fo114, fo370⟩, ⟨fo242, trivial⟩⟩⟩⟩⟩, ⟨⟨⟨⟨⟨fo10, fo266⟩, ⟨fo138, fo394⟩⟩, ⟨⟨fo74, fo330⟩, trivial⟩⟩, ⟨trivial, ⟨⟨fo106, fo362⟩, ⟨fo234, trivial⟩⟩⟩⟩, ⟨⟨⟨⟨trivial, fo282⟩, ⟨fo154, trivial⟩⟩, trivial⟩, ⟨trivial, ⟨⟨fo122, fo378⟩, ⟨fo250, trivial⟩⟩⟩⟩⟩⟩, ⟨⟨⟨⟨⟨⟨trivial, fo262⟩, ⟨fo134, fo390⟩⟩, ⟨⟨trivial, fo326⟩, trivial⟩⟩, ⟨trivial, ⟨⟨fo102, fo358⟩, ⟨fo230, trivial⟩⟩⟩⟩, ⟨⟨⟨⟨trivial, fo278⟩, ⟨fo150, trivial⟩⟩, trivial⟩, ⟨⟨⟨fo54, trivial⟩, trivial⟩, ⟨⟨fo118, fo374⟩, ⟨fo246, trivial⟩⟩⟩⟩⟩, ⟨⟨⟨⟨⟨trivial, fo270⟩, ⟨fo142, trivial⟩⟩, ⟨⟨trivial, fo334⟩, trivial⟩⟩, ⟨trivial, ⟨⟨fo110, trivial⟩, ⟨fo238, trivial⟩⟩⟩⟩, ⟨trivial, ⟨⟨⟨fco62, trivial⟩, trivial⟩, ⟨⟨fo126, fo382⟩, ⟨fo254, trivial⟩⟩⟩⟩⟩⟩⟩⟩, ⟨⟨⟨⟨⟨⟨⟨⟨trivial, fo257⟩, ⟨fo129, fo385⟩⟩, ⟨⟨trivial, fo321⟩, trivial⟩⟩, ⟨⟨⟨trivial, fo289⟩, trivial⟩, ⟨⟨fo97, trivial⟩, trivial⟩⟩⟩, ⟨⟨⟨⟨trivial, fo273⟩, ⟨fo145, trivial⟩⟩, ⟨⟨trivial, fo337⟩, trivial⟩⟩, ⟨trivial, ⟨⟨fo113, fo369⟩, ⟨fo241, trivial⟩⟩⟩⟩⟩, ⟨⟨⟨⟨⟨trivial, fo265⟩, ⟨fo137, fo393⟩⟩, ⟨⟨trivial, fo329⟩, trivial⟩⟩, ⟨⟨trivial, ⟨fo169, trivial⟩⟩, ⟨⟨fo105, fo361⟩, ⟨fo233, trivial⟩⟩⟩⟩, ⟨⟨⟨⟨trivial, fo281⟩, ⟨fo153, trivial⟩⟩, trivial⟩, ⟨trivial, ⟨⟨fo121, fo377⟩, ⟨fo249, trivial⟩⟩⟩⟩⟩⟩, ⟨⟨⟨⟨⟨⟨trivial, fo261⟩, ⟨fo133, fo389⟩⟩, ⟨⟨fo69, fo325⟩, trivial⟩⟩, ⟨trivial, ⟨⟨fo101, fo357⟩, ⟨fo229, trivial⟩⟩⟩⟩, ⟨⟨⟨⟨trivial, fo277⟩, ⟨fo149, trivial⟩⟩, trivial⟩, ⟨⟨⟨fo53, trivial⟩, trivial⟩, ⟨⟨fo117, fo373⟩, ⟨fo245, trivial⟩⟩⟩⟩⟩, ⟨⟨⟨⟨⟨fo13, fo269⟩, ⟨fo141, fo397⟩⟩, ⟨⟨trivial, fo333⟩, trivial⟩⟩, ⟨⟨trivial, ⟨fo173, trivial⟩⟩, ⟨⟨fo109, trivial⟩, ⟨fo237, trivial⟩⟩⟩⟩, ⟨⟨⟨⟨fo29, trivial⟩, ⟨fo157, trivial⟩⟩, trivial⟩, ⟨⟨⟨fo61, fo317⟩, trivial⟩, ⟨⟨fo125, fo381⟩, ⟨fo253, trivial⟩⟩⟩⟩⟩⟩⟩, ⟨⟨⟨⟨⟨⟨⟨trivial, fo259⟩, ⟨fo131, fo387⟩⟩, ⟨⟨fo67, fo323⟩, trivial⟩⟩, ⟨⟨⟨trivial, fo291⟩, trivial⟩, ⟨⟨fo99, trivial⟩, ⟨fo227, trivial⟩⟩⟩⟩, ⟨⟨⟨⟨fo19, fo275⟩, ⟨fo147, trivial⟩⟩, ⟨⟨trivial, fo339⟩, trivial⟩⟩, ⟨⟨⟨fo51, trivial⟩, trivial⟩, ⟨⟨fo115, fo371⟩, ⟨fo243, trivial⟩⟩⟩⟩⟩, ⟨⟨⟨⟨⟨fo11, fo267⟩, ⟨fo139, fo395⟩⟩, ⟨⟨fo75, fo331⟩, trivial⟩⟩, ⟨trivial, ⟨⟨fo107, trivial⟩, ⟨fo235, trivial⟩⟩⟩⟩, ⟨⟨⟨⟨fo27, fo283⟩, ⟨fo155, trivial⟩⟩, trivial⟩, ⟨⟨⟨fo59, trivial⟩, trivial⟩, ⟨⟨fo123, fo379⟩, ⟨fo251, trivial⟩⟩⟩⟩⟩⟩, ⟨⟨⟨⟨⟨⟨trivial, fo263⟩, ⟨fo135, fo391⟩⟩, ⟨⟨trivial, fo327⟩, trivial⟩⟩, ⟨trivial, ⟨⟨fo103, fo359⟩, ⟨fo231, trivial⟩⟩⟩⟩, ⟨⟨⟨⟨trivial, fo279⟩, ⟨fo151, trivial⟩⟩, trivial⟩, ⟨⟨⟨fo55, trivial⟩, trivial⟩, ⟨⟨fo119, fo375⟩, ⟨fo247, trivial⟩⟩⟩⟩⟩, ⟨⟨⟨⟨⟨trivial, fo271⟩, ⟨fo143, trivial⟩⟩, ⟨⟨trivial, fo335⟩, trivial⟩⟩, ⟨trivial, ⟨⟨fo111, fo367⟩, ⟨fo239, trivial⟩⟩⟩⟩, ⟨trivial, ⟨⟨⟨fo63, trivial⟩, trivial⟩, ⟨⟨fo127, fo383⟩, ⟨fo255, trivial⟩⟩⟩⟩⟩⟩⟩⟩⟩
theorem fnsOK [Bet] : FnsOK exe0 := fun _f _fi h => AllT.get fns_all h
theorem exe0_sound [Bet] (n : Nat) : Sound exe0.E.P (run exe0 n) := run_sound tabOK keysOK fnsOK (fun _ _ _ _ _ h => by cases h) (drawK_sound tabOK keysOK exe0_mixed) n
abbrev val0 : Val := ⟨fun _ => 0, fun _ => .nilFunc⟩
abbrev bet0 : Bet := ⟨fun _ => true⟩
end Go.Proofs.YtibmpjhffeinoaaGreat.Kx
