/-
  THE WALK of the law AuthMore (printed by mklawmo.py).
-/
import Derived.Test.YtpheiojmcafolaaGreatDoorSx18
import Derived.Deep.AppendLies
namespace Go.Proofs.YtpheiojmcafolaaGreatDoor
set_option maxRecDepth 100000
open Go.RowKit Go.Sort
def aOB (x : Aq) (ps : List PoM) : Bool := if askErr x ps = 0 then allowP nmQ fbQ (vtQ x.es x.q) ps else false
def aBY (x : Aq) (ps : List PoM) : List (List UInt8) := if askErr x ps = 0 then byP nmQ fbQ (vtQ x.es x.q) ps else []
def aWR (x : Aq) (ps : List PoM) : List (List UInt8) := if askErr x ps = 0 then wrongs nmQ (vtQ x.es x.q) ps else []
theorem auth_Ask (x : Aq) (ps : List PoM) (A : Option Addr) (c : Nat) (w : World) (hI : AqIn x w) (hP : PosIn w A ps) :
   Calls Tryz.prog 34 #[.slice x.Ea x.hs.length x.ec, .slice A ps.length c, .agg #[.string x.q.who.ty, .string x.q.who.id, .string x.q.act.ty, .string x.q.act.id, .string x.q.what.ty, .string x.q.what.id, .slice x.qa x.q.ctx.length x.qc]] w fun r w' => AnsBack w r w' (aOB x ps) (aBY x ps) (aWR x ps) (askErr x ps) := by
 unfold aOB aBY aWR
 by_cases hk : askErr x ps = 0
 · rw [if_pos hk, if_pos hk, if_pos hk]
   have := auth_Ask_ok x ps A c w hI hP hk
   rw [hk]; exact this
 · rw [if_neg hk, if_neg hk, if_neg hk]; exact auth_Ask_bad x ps A c w hI hP hk
end Go.Proofs.YtpheiojmcafolaaGreatDoor
