/- The table of math/bits that this seat's rows list -/
import Derived.Test.YtkdaiadfgfbgmaaGreatDoorCards
import Derived.Test.YtkdaiadfgfbgmaaGreatDoorTie
import Derived.Test.YtkdaiadfgfbgmaaGreatDoorQ25d192
import Derived.Deep.DeepHandedRow
import Derived.Lib.LaidTab
set_option maxRecDepth 100000
set_option maxHeartbeats 25600000
set_option linter.unusedSimpArgs false
open Option renaming none -> N, some -> G
open Go.Value renaming int -> E, pointer -> R, slice -> Xs, bool -> Xb, func -> Xf, tuple -> Xt
open Go.IntKind renaming i64 -> T, u64 -> Y
open Go.Addr renaming mk -> Z
open Go renaming Calls -> H
open Go.Proofs.Tryz renaming prog -> I
open Go.Obj renaming cells -> J
open Go.Ending renaming returned -> Q
namespace Go.Proofs.YtkdaiadfgfbgmaaGreatDoor
open Go.ChangeShapes Go.WideShapes Go.ChangeAt Go.RowKit
set_option linter.unusedVariables false
theorem ylf:ownKnob Tryz.prog.godebug=N:=by kernel_rfl
theorem yq0:laidOutB I=true:=by kernel_rfl
theorem yAb:Tryz.prog.globalNamed "math/bits.deBruijn64tab" =some 0:=by kernel_rfl
theorem ytR:(Tryz.prog.globals[0]?).map (·.type)=G 274:=by kernel_rfl
theorem yul:Tryz.prog.cellsOf 274=64:=by kernel_rfl
theorem ywY:Tryz.prog.cellsOf 5=1:=by kernel_rfl
def tabInts:List Int:=Lib.deBruijn64tab.map λ (n:Nat)=>(n:Int)
theorem yk2:∀i,i<64->tabInts.getD i 0= ((Lib.deBruijn64tab.getD i 0:Nat):Int):=by decide
theorem yxH {W:World} (h:laidMetH Tryz.prog [("math/bits.deBruijn64tab",Rows.laid_math_bits_deBruijn64tab)] W):Tab W:=by
 have ht:Lib.TabIs Tryz.prog W "math/bits.deBruijn64tab" .u8 tabInts:=Lib.tabIs_of_head (rest:= []) yAb ytR Tryz.underlying274 Tryz.underlying5 ywY yul h;have hc:∀i,i<64->W.cell? ⟨0,i,N⟩=G (.int .u8 (tabInts.getD i 0)):=λ i hi=>ht.cell yAb i hi;exact ⟨Nat.lt_of_le_of_lt (Zm _) (World.block_lt_of_cell? W _ (hc 0 zo)),λ i hi=>by rw [hc i hi,yk2 i hi]⟩
noncomputable def yg3 (os:Os):World:=
 {World.holding I os ⟨#[],#[],[]⟩ with heap:=(World.holding I os ⟨#[],#[],[]⟩).heap.modify 0 λ
   | J _ t frozen=>J (tabInts.map (Value.int .u8)).toArray t frozen
   | o=>o}
