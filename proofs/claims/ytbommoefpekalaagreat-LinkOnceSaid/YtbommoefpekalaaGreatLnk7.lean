/-
  THE WALKS: link.Link: what it hands back.
-/
import Derived.Test.YtbommoefpekalaaGreatLnk4
import Derived.Test.YtbommoefpekalaaGreatLnk5
import Derived.Test.YtbommoefpekalaaGreatLnk6
namespace Go.Proofs.YtbommoefpekalaaGreat
open Go.RowKit Go.Sort

theorem link_Link (p : Po) (cs : List CdM) (A : Option Addr) (c : Nat) (who what : Ud) (w : World) (hp : p.conds = cs.map CdM.cd) (hz : PoZ p) (hc : CdsAt w w.heap.size A cs) (hl : cs.length ≤ 9223372036854775807) (hu1 : UdOk who) (hu2 : UdOk what) :
    Calls Tryz.prog 5 #[.agg #[.string p.name, .bool p.forbid, .int .i64 p.who.op, .string p.who.ty, .string p.who.uid.ty, .string p.who.uid.id, .int .i64 p.act.op, .string p.act.ty, .string p.act.uid.ty, .string p.act.uid.id, .int .i64 p.what.op, .string p.what.ty, .string p.what.uid.ty, .string p.what.uid.id, .slice A cs.length c], .agg #[.string who.ty, .string who.id], .agg #[.string what.ty, .string what.id]] w fun e w' => PoBack w e w' (linkP p who what).1 (linkP p who what).2 := by
  by_cases hk : polErr p = 0
  · by_cases hk1 : (fillP p.who who).2 = 0
    · by_cases hk2 : (fillP p.what what).2 = 0
      · exact link_good p cs A c who what w hp hz hc hl hu1 hu2 hk hk1 hk2
      · exact link_bad2 p cs A c who what w hp hz hc hl hu1 hu2 hk hk1 hk2
    · exact link_bad1 p cs A c who what w hp hz hc hl hu1 hu2 hk hk1
  · exact link_bad p cs A c who what w hp hz hc hl hu1 hu2 hk
end Go.Proofs.YtbommoefpekalaaGreat
