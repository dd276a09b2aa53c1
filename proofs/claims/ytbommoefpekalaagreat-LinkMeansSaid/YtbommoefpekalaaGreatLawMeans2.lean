/-
  THE WALK of the law LinkMeans, both ways.
-/
import Derived.Test.YtbommoefpekalaaGreatLawMeans
namespace Go.Proofs.YtbommoefpekalaaGreat
open Go.RowKit Go.Sort

theorem law_means (p : Po) (cs : List CdM) (A : Option Addr) (c : Nat) (who what : Ud) (w : World) (hp : p.conds = cs.map CdM.cd) (hz : PoZ p) (hc : CdsAt w w.heap.size A cs) (hl : cs.length ≤ c) (hcm : c ≤ 9223372036854775807) (hu1 : UdOk who) (hu2 : UdOk what) :
    Calls Tryz.prog 4 #[.agg #[.string p.name, .bool p.forbid, .int .i64 p.who.op, .string p.who.ty, .string p.who.uid.ty, .string p.who.uid.id, .int .i64 p.act.op, .string p.act.ty, .string p.act.uid.ty, .string p.act.uid.id, .int .i64 p.what.op, .string p.what.ty, .string p.what.uid.ty, .string p.what.uid.id, .slice A cs.length c], .agg #[.string who.ty, .string who.id], .agg #[.string what.ty, .string what.id]] w fun r w' => r = .returned (.bool true) ∧ RowKit.Below w.heap.size w w' := by
  by_cases hk : (linkP p who what).2 = 0
  · exact law_means_good p cs A c who what w hp hz hc hl hcm hu1 hu2 hk
  · exact law_means_bad p cs A c who what w hp hz hc hl hcm hu1 hu2 hk
end Go.Proofs.YtbommoefpekalaaGreat
