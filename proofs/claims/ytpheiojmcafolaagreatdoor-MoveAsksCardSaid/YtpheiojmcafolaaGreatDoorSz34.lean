/-
 THE WALK of the law AuthApart.
-/
import Derived.Test.YtpheiojmcafolaaGreatDoorSz32
import Derived.Test.YtpheiojmcafolaaGreatDoorSz33
import Derived.Deep.AppendLies
set_option maxRecDepth 100000
set_option maxHeartbeats 25600000
namespace Go.Proofs.YtpheiojmcafolaaGreatDoor
open Go.RowKit Go.Sort
theorem Zze:(Tryz.prog.info? 47).map (λi=>(i.zero,i.size,i.bytes))=some (some (.agg #[.string ⟨#[]⟩,.bool false,.int .i64 0,.string ⟨#[]⟩,.string ⟨#[]⟩,.string ⟨#[]⟩,.int .i64 0,.string ⟨#[]⟩,.string ⟨#[]⟩,.string ⟨#[]⟩,.int .i64 0,.string ⟨#[]⟩,.string ⟨#[]⟩,.string ⟨#[]⟩,.slice none 0 0]),15,216):=by kernel_rfl
def aOB (x:Aq)(ps:List PoM):Bool:=if X2 x ps=0 then Qv nmQ fbQ (vtQ x.es x.q) ps else false
def aBY (x:Aq)(ps:List PoM):List (List UInt8):=if X2 x ps=0 then byP nmQ fbQ (vtQ x.es x.q) ps else []
def aWR (x:Aq)(ps:List PoM):List (List UInt8):=if X2 x ps=0 then Up nmQ (vtQ x.es x.q) ps else []
theorem Zci (x:Aq)(ps:List PoM)(A:Option Addr)(c:Nat)(w:World)(hI:Zdy x w)(hP:Q6 w A ps) :
 Calls Tryz.prog 34 #[.slice x.Ea x.hs.length x.ec,.slice A ps.length c,.agg #[.string x.q.who.ty,.string x.q.who.id,.string x.q.act.ty,.string x.q.act.id,.string x.q.what.ty,.string x.q.what.id,.slice x.qa x.q.ctx.length x.qc]] w λr w'=>Jr w r w' (aOB x ps) (aBY x ps) (aWR x ps) (X2 x ps):=by
 unfold aOB aBY aWR;by_cases hk:X2 x ps=0
 . rw [if_pos hk,if_pos hk,if_pos hk];have:=Zot x ps A c w hI hP hk;rw [hk];exact this
 . rw [if_neg hk,if_neg hk,if_neg hk];exact Zl7 x ps A c w hI hP hk
theorem Zoc (OB:Bool)(BY WR:List (List UInt8))(A1 A2 B1 B2:Option Addr)(c1 c2 d1 d2:Nat)(w:World)(h1:Y2 w w.heap.size A1 BY)(h2:Y2 w w.heap.size A2 WR)(g1:Y2 w w.heap.size B1 BY)(g2:Y2 w w.heap.size B2 WR)(l1:BY.length<=9223372036854775807)(l2:WR.length<=9223372036854775807) :
 Calls Tryz.prog 39 #[.agg #[.bool OB,.slice A1 BY.length c1,.slice A2 WR.length c2],.agg #[.bool OB,.slice B1 BY.length d1,.slice B2 WR.length d2]] w λr w'=>r=.returned (.bool true)/\RowKit.Below w.heap.size w w':=by
 have hb0:RowKit.Below w.heap.size w ((w.alloc (.cells #[.bool OB,.slice A1 BY.length c1,.slice A2 WR.length c2] 70)).alloc (.cells #[.bool OB,.slice B1 BY.length d1,.slice B2 WR.length d2] 70)):=by (repeat (first | assumption | exact bR | apply bD | apply Za | refine bA ?_ _))
 have D0:=Ld ((Blk.new w 70 #[.bool OB,.slice A1 BY.length c1,.slice A2 WR.length c2]).alloc (.cells #[.bool OB,.slice B1 BY.length d1,.slice B2 WR.length d2] 70));have D1:Hid (Blk ((w.alloc (.cells #[.bool OB,.slice A1 BY.length c1,.slice A2 WR.length c2] 70)).alloc (.cells #[.bool OB,.slice B1 BY.length d1,.slice B2 WR.length d2] 70)) (w.heap.size+1) 70 #[.bool OB,.slice B1 BY.length d1,.slice B2 WR.length d2]):=by
  have:=Blk.new (w.alloc (.cells #[.bool OB,.slice A1 BY.length c1,.slice A2 WR.length c2] 70)) 70 #[.bool OB,.slice B1 BY.length d1,.slice B2 WR.length d2];rw [World.size_alloc] at this;exact this
 have HT1:=Ld (λW (hW:RowKit.Below w.heap.size w W)=>Zhp BY A1 B1 c1 d1 W ((h1.below hW).more hW.size) ((g1.below hW).more hW.size) l1);have HT2:=Ld (λW (hW:RowKit.Below w.heap.size w W)=>Zhp WR A2 B2 c2 d2 W ((h2.below hW).more hW.size) ((g2.below hW).more hW.size) l2);have HB:=Ld hb0;clear h1 h2 g1 g2 hb0;go_enter Tryz.func39,Tryz.ntmps39
 go_wp2_with fail
 refine (HT1.out _ HB.out).mono ?_;rintro r w1 ⟨rfl,hb1⟩;have E0:=Ld (D0.out.below hb1 D0.out.lt);have E1:=Ld (D1.out.below hb1 D1.out.lt);have HB1:=Ld (HB.out.trans (hb1.mono HB.out.size));clear hb1 D0 D1 HB;have cc:=E0.out.cell;have cl:=E0.out.lt;have dc:=E1.out.cell;have dl:=E1.out.lt;go_wp2_with fail
 refine (HT2.out _ HB1.out).mono ?_;rintro r w2 ⟨rfl,hb2⟩;have G0:=Ld (E0.out.below hb2 E0.out.lt);have G1:=Ld (E1.out.below hb2 E1.out.lt);have HB2:=Ld (HB1.out.trans (hb2.mono HB1.out.size));clear hb2 E0 E1 HB1 cc cl dc dl;have cc:=G0.out.cell;have cl:=G0.out.lt;have dc:=G1.out.cell;have dl:=G1.out.lt;have hob:(OB==OB)=true:=by simp
 go_wp2_with fail
 go_ret
 exact ⟨rfl,HB2.out⟩
end Go.Proofs.YtpheiojmcafolaaGreatDoor
