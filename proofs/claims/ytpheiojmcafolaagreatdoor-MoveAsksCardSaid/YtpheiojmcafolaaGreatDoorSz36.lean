/-
 The row's condition on errors.errorType: what it gives a walk, and a world that meets it (turned from the worked ToyasProofs).
-/
import Derived.Test.YtpheiojmcafolaaGreatDoorRows
import Derived.Test.YtpheiojmcafolaaGreatDoorSz20
import Derived.ChangeVars
import Derived.JoinedOf
import Derived.LaidLaws
import Derived.LaidHandle
import Derived.Stop.Joined
set_option maxRecDepth 100000
set_option maxHeartbeats 25600000
namespace Go.Proofs.YtpheiojmcafolaaGreatDoor
open Go.ChangeShapes Go.WideShapes Go.RowKit
def Zng:List (String × DataW Unit):=[("errors.errorType",Rows.laid_errors_errorType)]
theorem Tryz.et:Tryz.prog.globalNamed "errors.errorType" = some 0:=by kernel_rfl
theorem Tryz.rt:(Tryz.prog.cutTypes.find? (·.1 == "internal/reflectlite.rtype")).map (·.2)=some 285:=by kernel_rfl
theorem Tryz.oneRow:((List.range 413).filter λt=>Tryz.prog.rowNamed t [101,114,114,111,114]) = [27]:=by kernel_rfl
theorem Tryz.size:Tryz.prog.types.size=413:=by kernel_rfl
theorem Zhl {W:World}(h:laidMetH Tryz.prog Zng W):Yy W:=by
 have h':laidMet Tryz.prog [] W/\handlesMet Tryz.prog Zng W:=h;obtain ⟨name,u,ty,e1,e2,e3,e4,e5⟩:=h'.2 _ (List.mem_singleton.2 rfl);have en:name = [101,114,114,111,114]:=(Option.some.inj e1).symm;subst en;obtain rfl:=Option.some.inj (Tryz.rt.symm.trans e2);have hm:ty∈(List.range 413).filter λt=>Tryz.prog.rowNamed t [101,114,114,111,114]:=List.mem_filter.2 ⟨List.mem_range.2 (by rw [<-Tryz.size];exact e3),e4⟩;rw [Tryz.oneRow] at hm;obtain rfl:=List.mem_singleton.1 hm;have hh:typeHandle Tryz.prog 27=.pointer (some ⟨2,27,none⟩):=by kernel_rfl
 rw [hh] at e5;unfold Yy;simpa using World.var?_cell Tryz.et e5 0
noncomputable def laidWorld (os:Os):World:=
 let w0:=World.holding Tryz.prog os ⟨#[],#[],[]⟩
 { w0 with heap:=w0.heap.modify 0 fun
  | .cells _ t frozen=>.cells #[.iface 285 (.agg #[.pointer (some ⟨2,27,none⟩)])] t frozen
  | o=>o }
theorem Zkj (os:Os)(args:Array Value):laidMetH Tryz.prog Zng ((laidWorld os).forCall (λ_ _=>0) ⟨#[],args,[]⟩).memory:=
 laidMetH_of_parts (laidMet_nil _ _) (by kernel_rfl)
end Go.Proofs.YtpheiojmcafolaaGreatDoor
