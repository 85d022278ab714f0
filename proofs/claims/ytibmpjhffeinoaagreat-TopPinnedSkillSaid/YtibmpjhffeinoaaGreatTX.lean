/-
  The executor's soundness on this program; the loops over maps. Printed by gen_tf.py.
-/
import Derived.Test.YtibmpjhffeinoaaGreatTK
import Derived.Test.YtibmpjhffeinoaaGreatA6
namespace Go.Proofs.YtibmpjhffeinoaaGreat.Kx
open Go
variable [Val]

set_option maxRecDepth 100000
omit [Val] in
theorem exe0_mixed : Tryz.prog.follows .mixedOrders = true := by kernel_rfl
theorem exeB_sound [Bet] (n : Nat) : Sound exeB.E.P (run exeB n) := run_sound tabOK keysOK fnsBOK (fun _ _ _ _ _ h => by cases h) (drawK_sound tabOK keysOK exe0_mixed) n
omit [Val] in
theorem rl62_0_c : rl62_0.code = (subAt [true, true, true, true, true, false, true] (codeOf Tryz.f62)) := by kernel_rfl
omit [Val] in
theorem rl62_0_g : rl62_0.Good := ⟨by kernel_rfl, by kernel_rfl, by kernel_rfl, by kernel_rfl, by kernel_rfl, by kernel_rfl, by kernel_rfl, by kernel_rfl, by kernel_rfl⟩
theorem x62_c0 [Bet] : CutOK Tryz.prog (subAt [true, true, true, true, true, false, true] (codeOf Tryz.f62)) (rexpK exeB 1000 rl62_0 [2, 8, 70] [8]) := by
  rw [← rl62_0_c]
  exact rexp_ok tabOK keysOK (fun {_} => exeB_sound _) rl62_0_g
omit [Val] in
theorem xc62_r : Tryz.f62.body = some xc62.real := by kernel_rfl
theorem fco62 [Bet] : FOK Tryz.prog 62 fc62 := ⟨Tryz.f62, Tryz.func62, xc62_r, ⟨trivial, ⟨trivial, ⟨trivial, ⟨trivial, ⟨trivial, ⟨⟨trivial, x62_c0⟩, trivial⟩⟩⟩⟩⟩⟩, by rfl, by rfl, by kernel_rfl⟩
omit [Val] in
theorem rl72_0_c : rl72_0.code = (subAt [true, true, true, true, false, true] (codeOf Tryz.f72)) := by kernel_rfl
omit [Val] in
theorem rl72_0_g : rl72_0.Good := ⟨by kernel_rfl, by kernel_rfl, by kernel_rfl, by kernel_rfl, by kernel_rfl, by kernel_rfl, by kernel_rfl, by kernel_rfl, by kernel_rfl⟩
theorem x72_c0 [Bet] : CutOK Tryz.prog (subAt [true, true, true, true, false, true] (codeOf Tryz.f72)) (rdelK exeB 1000 rl72_0 [1, 5, 58] [1]) := by
  rw [← rl72_0_c]
  exact rdel_ok tabOK keysOK (fun {_} => exeB_sound _) rl72_0_g
omit [Val] in
theorem rl72_1_c : rl72_1.code = (subAt [true, true, true, true, true, true, false, true] (codeOf Tryz.f72)) := by kernel_rfl
omit [Val] in
theorem rl72_1_g : rl72_1.Good := ⟨by kernel_rfl, by kernel_rfl, by kernel_rfl, by kernel_rfl, by kernel_rfl, by kernel_rfl, by kernel_rfl, by kernel_rfl, by kernel_rfl⟩
theorem x72_c1 [Bet] : CutOK Tryz.prog (subAt [true, true, true, true, true, true, false, true] (codeOf Tryz.f72)) (rexpK exeB 1000 rl72_1 [10, 11, 73] []) := by
  rw [← rl72_1_c]
  exact rexp_ok tabOK keysOK (fun {_} => exeB_sound _) rl72_1_g
omit [Val] in
theorem xc72_r : Tryz.f72.body = some xc72.real := by kernel_rfl
theorem fco72 [Bet] : FOK Tryz.prog 72 fc72 := ⟨Tryz.f72, Tryz.func72, xc72_r, ⟨trivial, ⟨trivial, ⟨trivial, ⟨trivial, ⟨⟨trivial, x72_c0⟩, ⟨trivial, ⟨⟨trivial, x72_c1⟩, trivial⟩⟩⟩⟩⟩⟩⟩, by rfl, by rfl, by kernel_rfl⟩
omit [Val] in
theorem rl78_0_c : rl78_0.code = (subAt [true, true, true, true, true, true, true, false, true] (codeOf Tryz.f78)) := by kernel_rfl
omit [Val] in
theorem rl78_0_g : rl78_0.Good := ⟨by kernel_rfl, by kernel_rfl, by kernel_rfl, by kernel_rfl, by kernel_rfl, by kernel_rfl, by kernel_rfl, by kernel_rfl, by kernel_rfl⟩
theorem x78_c0 [Bet] : CutOK Tryz.prog (subAt [true, true, true, true, true, true, true, false, true] (codeOf Tryz.f78)) (rdelK exeB 1000 rl78_0 [0, 3, 8, 48] [0, 3]) := by
  rw [← rl78_0_c]
  exact rdel_ok tabOK keysOK (fun {_} => exeB_sound _) rl78_0_g
omit [Val] in
theorem xc78_r : Tryz.f78.body = some xc78.real := by kernel_rfl
theorem fco78 [Bet] : FOK Tryz.prog 78 fc78 := ⟨Tryz.f78, Tryz.func78, xc78_r, ⟨trivial, ⟨trivial, ⟨trivial, ⟨trivial, ⟨trivial, ⟨trivial, ⟨trivial, ⟨⟨trivial, x78_c0⟩, trivial⟩⟩⟩⟩⟩⟩⟩⟩, by rfl, by rfl, by kernel_rfl⟩
omit [Val] in
theorem rl146_0_c : rl146_0.code = (subAt [true, true, true, true, false, true] (codeOf Tryz.f146)) := by kernel_rfl
omit [Val] in
theorem rl146_0_g : rl146_0.Good := ⟨by kernel_rfl, by kernel_rfl, by kernel_rfl, by kernel_rfl, by kernel_rfl, by kernel_rfl, by kernel_rfl, by kernel_rfl, by kernel_rfl⟩
theorem x146_c0 [Bet] : CutOK Tryz.prog (subAt [true, true, true, true, false, true] (codeOf Tryz.f146)) (rdelK exeB 1000 rl146_0 [3, 50] [3]) := by
  rw [← rl146_0_c]
  exact rdel_ok tabOK keysOK (fun {_} => exeB_sound _) rl146_0_g
omit [Val] in
theorem xc146_r : Tryz.f146.body = some xc146.real := by kernel_rfl
theorem fco146 [Bet] : FOK Tryz.prog 146 fc146 := ⟨Tryz.f146, Tryz.func146, xc146_r, ⟨trivial, ⟨trivial, ⟨trivial, ⟨⟨trivial, x146_c0⟩, trivial⟩⟩⟩⟩, by rfl, by rfl, by kernel_rfl⟩
omit [Val] in
theorem rl236_0_c : rl236_0.code = (subAt [true, true, true, true, false, true, true, true, true, true, false, true, true, false, true, true, true, false, true] (codeOf Tryz.f236)) := by kernel_rfl
omit [Val] in
theorem rl236_0_g : rl236_0.Good := ⟨by kernel_rfl, by kernel_rfl, by kernel_rfl, by kernel_rfl, by kernel_rfl, by kernel_rfl, by kernel_rfl, by kernel_rfl, by kernel_rfl⟩
theorem x236_c0 [Bet] : CutOK Tryz.prog (subAt [true, true, true, true, false, true, true, true, true, true, false, true, true, false, true, true, true, false, true] (codeOf Tryz.f236)) (rexpK exeB 1000 rl236_0 [0, 7, 8, 10, 25, 26, 38] [7, 10]) := by
  rw [← rl236_0_c]
  exact rexp_ok tabOK keysOK (fun {_} => exeB_sound _) rl236_0_g
omit [Val] in
theorem xc236_r : Tryz.f236.body = some xc236.real := by kernel_rfl
theorem fco236 [Bet] : FOK Tryz.prog 236 fc236 := ⟨Tryz.f236, Tryz.func236, xc236_r, ⟨trivial, ⟨trivial, ⟨trivial, ⟨trivial, ⟨⟨trivial, ⟨trivial, ⟨trivial, ⟨⟨trivial, ⟨⟨trivial, ⟨⟨trivial, ⟨⟨trivial, x236_c0⟩, trivial⟩⟩, trivial⟩⟩, trivial⟩⟩, trivial⟩⟩⟩⟩, trivial⟩⟩⟩⟩⟩, by rfl, by rfl, by kernel_rfl⟩
theorem fns_all [Bet] : AllT (FOK Tryz.prog) fns := ⟨⟨⟨⟨⟨⟨⟨⟨⟨trivial, fo256⟩, ⟨fo128, fo384⟩⟩, ⟨⟨fo64, fo320⟩, ⟨fo192, trivial⟩⟩⟩, ⟨⟨⟨fo32, fo288⟩, ⟨fo160, trivial⟩⟩, ⟨⟨fo96, fo352⟩, ⟨fo224, trivial⟩⟩⟩⟩, ⟨⟨⟨⟨fo16, fo272⟩, ⟨fo144, trivial⟩⟩, ⟨⟨fo80, fo336⟩, ⟨fo208, trivial⟩⟩⟩, ⟨⟨⟨fo48, fo304⟩, ⟨fo176, trivial⟩⟩, ⟨⟨fo112, fo368⟩, ⟨fo240, trivial⟩⟩⟩⟩⟩, ⟨⟨⟨⟨⟨fo8, fo264⟩, ⟨fo136, fo392⟩⟩, ⟨⟨fco72, fo328⟩, ⟨fo200, trivial⟩⟩⟩, ⟨⟨⟨fo40, fo296⟩, ⟨fo168, trivial⟩⟩, ⟨⟨fo104, fo360⟩, ⟨fo232, trivial⟩⟩⟩⟩, ⟨⟨⟨⟨fo24, fo280⟩, ⟨fo152, trivial⟩⟩, ⟨⟨fo88, fo344⟩, ⟨fo216, trivial⟩⟩⟩, ⟨⟨⟨fo56, fo312⟩, ⟨fo184, trivial⟩⟩, ⟨⟨fo120, fo376⟩, ⟨fo248, trivial⟩⟩⟩⟩⟩⟩, ⟨⟨⟨⟨⟨⟨fo4, fo260⟩, ⟨fo132, fo388⟩⟩, ⟨⟨fo68, fo324⟩, ⟨fo196, trivial⟩⟩⟩, ⟨⟨⟨fo36, fo292⟩, ⟨fo164, trivial⟩⟩, ⟨⟨fo100, fo356⟩, ⟨fo228, trivial⟩⟩⟩⟩, ⟨⟨⟨⟨fo20, fo276⟩, ⟨fo148, trivial⟩⟩, ⟨⟨fo84, fo340⟩, ⟨fo212, trivial⟩⟩⟩, ⟨⟨⟨fo52, fo308⟩, ⟨fo180, trivial⟩⟩, ⟨⟨fo116, fo372⟩, ⟨fo244, trivial⟩⟩⟩⟩⟩, ⟨⟨⟨⟨⟨fo12, fo268⟩, ⟨fo140, fo396⟩⟩, ⟨⟨fo76, fo332⟩, ⟨fo204, trivial⟩⟩⟩, ⟨⟨⟨fo44, fo300⟩, ⟨fo172, trivial⟩⟩, ⟨⟨fo108, fo364⟩, ⟨fco236, trivial⟩⟩⟩⟩, ⟨⟨⟨⟨fo28, fo284⟩, ⟨fo156, trivial⟩⟩, ⟨⟨fo92, fo348⟩, ⟨fo220, trivial⟩⟩⟩, ⟨⟨⟨fo60, fo316⟩, ⟨fo188, trivial⟩⟩, ⟨⟨fo124, fo380⟩, ⟨fo252, trivial⟩⟩⟩⟩⟩⟩⟩, ⟨⟨⟨⟨⟨⟨⟨trivial, fo258⟩, ⟨fo130, fo386⟩⟩, ⟨⟨fo66, fo322⟩, ⟨fo194, trivial⟩⟩⟩, ⟨⟨⟨fo34, fo290⟩, ⟨fo162, trivial⟩⟩, ⟨⟨fo98, fo354⟩, ⟨fo226, trivial⟩⟩⟩⟩, ⟨⟨⟨⟨fo18, fo274⟩, ⟨fco146, trivial⟩⟩, ⟨⟨fo82, fo338⟩, ⟨fo210, trivial⟩⟩⟩, ⟨⟨⟨fo50, fo306⟩, ⟨fo178, trivial⟩⟩, ⟨⟨fo114, fo370⟩, ⟨fo242, trivial⟩⟩⟩⟩⟩, ⟨⟨⟨⟨⟨fo10, fo266⟩, ⟨fo138, fo394⟩⟩, ⟨⟨fo74, fo330⟩, ⟨fo202, trivial⟩⟩⟩, ⟨⟨⟨fo42, fo298⟩, ⟨fo170, trivial⟩⟩, ⟨⟨fo106, fo362⟩, ⟨fo234, trivial⟩⟩⟩⟩, ⟨⟨⟨⟨fo26, fo282⟩, ⟨fo154, trivial⟩⟩, ⟨⟨fo90, fo346⟩, ⟨fo218, trivial⟩⟩⟩, ⟨⟨⟨fo58, fo314⟩, ⟨fo186, trivial⟩⟩, ⟨⟨fo122, fo378⟩, ⟨fo250, trivial⟩⟩⟩⟩⟩⟩, ⟨⟨⟨⟨⟨⟨fo6, fo262⟩, ⟨fo134, fo390⟩⟩, ⟨⟨fo70, fo326⟩, ⟨fo198, trivial⟩⟩⟩, ⟨⟨⟨fo38, fo294⟩, ⟨fo166, trivial⟩⟩, ⟨⟨fo102, fo358⟩, ⟨fo230, trivial⟩⟩⟩⟩, ⟨⟨⟨⟨fo22, fo278⟩, ⟨fo150, trivial⟩⟩, ⟨⟨fo86, fo342⟩, ⟨fo214, trivial⟩⟩⟩, ⟨⟨⟨fo54, fo310⟩, ⟨fo182, trivial⟩⟩, ⟨⟨fo118, fo374⟩, ⟨fo246, trivial⟩⟩⟩⟩⟩, ⟨⟨⟨⟨⟨fo14, fo270⟩, ⟨fo142, trivial⟩⟩, ⟨⟨fco78, fo334⟩, ⟨fo206, trivial⟩⟩⟩, ⟨⟨⟨fo46, fo302⟩, ⟨fo174, trivial⟩⟩, ⟨⟨fo110, fo366⟩, ⟨fo238, trivial⟩⟩⟩⟩, ⟨⟨⟨⟨fo30, fo286⟩, ⟨fo158, trivial⟩⟩, ⟨⟨fo94, fo350⟩, ⟨fo222, trivial⟩⟩⟩, ⟨⟨⟨fco62, fo318⟩, ⟨fo190, trivial⟩⟩, ⟨⟨fo126, fo382⟩, ⟨fo254, trivial⟩⟩⟩⟩⟩⟩⟩⟩, ⟨⟨⟨⟨⟨⟨⟨⟨trivial, fo257⟩, ⟨fo129, fo385⟩⟩, ⟨⟨fo65, fo321⟩, ⟨fo193, trivial⟩⟩⟩, ⟨⟨⟨fo33, fo289⟩, ⟨fo161, trivial⟩⟩, ⟨⟨fo97, fo353⟩, ⟨fo225, trivial⟩⟩⟩⟩, ⟨⟨⟨⟨fo17, fo273⟩, ⟨fo145, trivial⟩⟩, ⟨⟨fo81, fo337⟩, ⟨fo209, trivial⟩⟩⟩, ⟨⟨⟨fo49, fo305⟩, ⟨fo177, trivial⟩⟩, ⟨⟨fo113, fo369⟩, ⟨fo241, trivial⟩⟩⟩⟩⟩, ⟨⟨⟨⟨⟨fo9, fo265⟩, ⟨fo137, fo393⟩⟩, ⟨⟨fo73, fo329⟩, ⟨fo201, trivial⟩⟩⟩, ⟨⟨⟨fo41, fo297⟩, ⟨fo169, trivial⟩⟩, ⟨⟨fo105, fo361⟩, ⟨fo233, trivial⟩⟩⟩⟩, ⟨⟨⟨⟨fo25, fo281⟩, ⟨fo153, trivial⟩⟩, ⟨⟨fo89, fo345⟩, ⟨fo217, trivial⟩⟩⟩, ⟨⟨⟨fo57, fo313⟩, ⟨fo185, trivial⟩⟩, ⟨⟨fo121, fo377⟩, ⟨fo249, trivial⟩⟩⟩⟩⟩⟩, ⟨⟨⟨⟨⟨⟨fo5, fo261⟩, ⟨fo133, fo389⟩⟩, ⟨⟨fo69, fo325⟩, ⟨fo197, trivial⟩⟩⟩, ⟨⟨⟨fo37, fo293⟩, ⟨fo165, trivial⟩⟩, ⟨⟨fo101, fo357⟩, ⟨fo229, trivial⟩⟩⟩⟩, ⟨⟨⟨⟨fo21, fo277⟩, ⟨fo149, trivial⟩⟩, ⟨⟨fo85, fo341⟩, ⟨fo213, trivial⟩⟩⟩, ⟨⟨⟨fo53, fo309⟩, ⟨fo181, trivial⟩⟩, ⟨⟨fo117, fo373⟩, ⟨fo245, trivial⟩⟩⟩⟩⟩, ⟨⟨⟨⟨⟨fo13, fo269⟩, ⟨fo141, fo397⟩⟩, ⟨⟨fo77, fo333⟩, ⟨fo205, trivial⟩⟩⟩, ⟨⟨⟨fo45, fo301⟩, ⟨fo173, trivial⟩⟩, ⟨⟨fo109, fo365⟩, ⟨fo237, trivial⟩⟩⟩⟩, ⟨⟨⟨⟨fo29, fo285⟩, ⟨fo157, trivial⟩⟩, ⟨⟨fo93, fo349⟩, ⟨fo221, trivial⟩⟩⟩, ⟨⟨⟨fo61, fo317⟩, ⟨fo189, trivial⟩⟩, ⟨⟨fo125, fo381⟩, ⟨fo253, trivial⟩⟩⟩⟩⟩⟩⟩, ⟨⟨⟨⟨⟨⟨⟨fo3, fo259⟩, ⟨fo131, fo387⟩⟩, ⟨⟨fo67, fo323⟩, ⟨fo195, trivial⟩⟩⟩, ⟨⟨⟨fo35, fo291⟩, ⟨fo163, trivial⟩⟩, ⟨⟨fo99, fo355⟩, ⟨fo227, trivial⟩⟩⟩⟩, ⟨⟨⟨⟨fo19, fo275⟩, ⟨fo147, trivial⟩⟩, ⟨⟨fo83, fo339⟩, ⟨fo211, trivial⟩⟩⟩, ⟨⟨⟨fo51, fo307⟩, ⟨fo179, trivial⟩⟩, ⟨⟨fo115, fo371⟩, ⟨fo243, trivial⟩⟩⟩⟩⟩, ⟨⟨⟨⟨⟨fo11, fo267⟩, ⟨fo139, fo395⟩⟩, ⟨⟨fo75, fo331⟩, ⟨fo203, trivial⟩⟩⟩, ⟨⟨⟨fo43, fo299⟩, ⟨fo171, trivial⟩⟩, ⟨⟨fo107, fo363⟩, ⟨fo235, trivial⟩⟩⟩⟩, ⟨⟨⟨⟨fo27, fo283⟩, ⟨fo155, trivial⟩⟩, ⟨⟨fo91, fo347⟩, ⟨fo219, trivial⟩⟩⟩, ⟨⟨⟨fo59, fo315⟩, ⟨fo187, trivial⟩⟩, ⟨⟨fo123, fo379⟩, ⟨fo251, trivial⟩⟩⟩⟩⟩⟩, ⟨⟨⟨⟨⟨⟨fo7, fo263⟩, ⟨fo135, fo391⟩⟩, ⟨⟨fo71, fo327⟩, ⟨fo199, trivial⟩⟩⟩, ⟨⟨⟨fo39, fo295⟩, ⟨fo167, trivial⟩⟩, ⟨⟨fo103, fo359⟩, ⟨fo231, trivial⟩⟩⟩⟩, ⟨⟨⟨⟨fo23, fo279⟩, ⟨fo151, trivial⟩⟩, ⟨⟨fo87, fo343⟩, ⟨fo215, trivial⟩⟩⟩, ⟨⟨⟨fo55, fo311⟩, ⟨fo183, trivial⟩⟩, ⟨⟨fo119, fo375⟩, ⟨fo247, trivial⟩⟩⟩⟩⟩, ⟨⟨⟨⟨⟨fo15, fo271⟩, ⟨fo143, trivial⟩⟩, ⟨⟨fo79, fo335⟩, ⟨fo207, trivial⟩⟩⟩, ⟨⟨⟨fo47, fo303⟩, ⟨fo175, trivial⟩⟩, ⟨⟨fo111, fo367⟩, ⟨fo239, trivial⟩⟩⟩⟩, ⟨⟨⟨⟨fo31, fo287⟩, ⟨fo159, trivial⟩⟩, ⟨⟨fo95, fo351⟩, ⟨fo223, trivial⟩⟩⟩, ⟨⟨⟨fo63, fo319⟩, ⟨fo191, trivial⟩⟩, ⟨⟨fo127, fo383⟩, ⟨fo255, trivial⟩⟩⟩⟩⟩⟩⟩⟩⟩
theorem fnsOK [Bet] : FnsOK exe0 := fun _f _fi h => AllT.get fns_all h
theorem exe0_sound [Bet] (n : Nat) : Sound exe0.E.P (run exe0 n) := run_sound tabOK keysOK fnsOK (fun _ _ _ _ _ h => by cases h) (drawK_sound tabOK keysOK exe0_mixed) n
abbrev val0 : Val := ⟨fun _ => 0, fun _ => .nilFunc⟩
abbrev bet0 : Bet := ⟨fun _ => true⟩
end Go.Proofs.YtibmpjhffeinoaaGreat.Kx
