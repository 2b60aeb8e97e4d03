/-
  The table of math/bits that this seat's rows list: what a row's premise gives of it, and a world that holds it.
-/
import Derived.Test.YthimhfmnikfgaaaGreatDoorCards
import Derived.Test.YthimhfmnikfgaaaGreatDoorTie
import Derived.Test.YthimhfmnikfgaaaGreatDoorQ5be90c
import Derived.Test.YthimhfmnikfgaaaGreatDoorQ1247ae
import Derived.Deep.DeepHandedRow
import Derived.Lib.LaidTab
namespace Go.Proofs.YthimhfmnikfgaaaGreatDoor
open Go.ChangeShapes Go.WideShapes Go.ChangeAt Go.RowKit
set_option linter.unusedVariables false
theorem ownKnobNone:ownKnob Tryz.prog.godebug=none:=by kernel_rfl
theorem laidOut:laidOutB Tryz.prog=true:=by kernel_rfl
theorem gTab:Tryz.prog.globalNamed "math/bits.deBruijn64tab" =some 0:=by kernel_rfl
theorem gTabType:(Tryz.prog.globals[0]?).map (·.type)=some 272:=by kernel_rfl
theorem cellsTab:Tryz.prog.cellsOf 272=64:=by kernel_rfl
theorem cellsU8:Tryz.prog.cellsOf 5=1:=by kernel_rfl
def tabInts:List Int:=Lib.deBruijn64tab.map fun (n:Nat)=>(n:Int)
theorem tabInts_get:∀i,i < 64→tabInts.getD i 0= ((Lib.deBruijn64tab.getD i 0:Nat):Int):=by decide
theorem tab_of {W:World} (h:laidMetH Tryz.prog [("math/bits.deBruijn64tab",Rows.laid_math_bits_deBruijn64tab)] W):Tab W:=by
 have ht:Lib.TabIs Tryz.prog W "math/bits.deBruijn64tab" .u8 tabInts:=Lib.tabIs_of_head (rest:= []) gTab gTabType Tryz.underlying272 Tryz.underlying5 cellsU8 cellsTab h
 have hc:∀i,i < 64→W.cell? ⟨0,i,none⟩=some (.int .u8 (tabInts.getD i 0)):=fun i hi=>ht.cell gTab i hi
 exact ⟨Nat.lt_of_le_of_lt (Nat.zero_le _) (World.block_lt_of_cell? W _ (hc 0 (by omega))),fun i hi=>by rw [hc i hi,tabInts_get i hi]⟩
noncomputable def laidWorld (os:Os):World:=
 {World.holding Tryz.prog os ⟨#[],#[],[]⟩ with heap:=(World.holding Tryz.prog os ⟨#[],#[],[]⟩).heap.modify 0 fun
   | .cells _ t frozen=> .cells (tabInts.map (Value.int .u8)).toArray t frozen
   | o=>o}
end Go.Proofs.YthimhfmnikfgaaaGreatDoor
