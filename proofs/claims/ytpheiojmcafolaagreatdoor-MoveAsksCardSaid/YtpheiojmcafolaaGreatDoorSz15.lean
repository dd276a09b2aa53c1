/-
 ARGUMENTS that are entities, requests and policies, opened, with numbers that stay in 64 bits.
-/
import Derived.Test.YtpheiojmcafolaaGreatDoorSz14
set_option maxRecDepth 100000
set_option maxHeartbeats 25600000
namespace Go.Proofs.YtpheiojmcafolaaGreatDoor
open Go.ChangeShapes Go.WideShapes Go.RowKit Go.Deep
def Zbx {H:Type}(t:TypeId)(d:DataW H):Prop:=∀n,n∈d.weights Tryz.prog t->n<=reachBytes
theorem Zrp:Tryz.prog.cellsOf 107=1:=by kernel_rfl
theorem Zd1:Tryz.prog.cellsOf 109=4:=by kernel_rfl
theorem Zjx:Tryz.prog.cellsOf 39=7:=by kernel_rfl
section
variable {H : Type} {enc : TypeId × Value -> H} {W : World}
theorem Z4n {a:Int}(h:(Lit.int .i64 a).wf=true):I64 a:=by
 unfold Lit.wf at h;rw [Bool.and_eq_true,decide_eq_true_eq,decide_eq_true_eq] at h;exact h
theorem Zp8 {n:Nat}{cs:List Value}{y:DataW H × List MemPlace}(h:DataW.trod enc Tryz.prog W 0 (λ_=>true) true n 37 cs=some y) :
 ∃x:Nd,cs=x.cells/\y.1=Zg3 x/\I64 x.n:=by
 obtain ⟨x,h1,h2⟩:=Zwx h;refine ⟨x,h1,h2,?_⟩;obtain ⟨xs,m,_,hy,hlen,hxl,hf⟩:=DataW.trod_struct Tryz.underlying37 h;subst h1;match xs,hxl with
 | [y0,y1,y2,y3],_=>
  have e1:DataW.trod enc Tryz.prog W 0 (λ_=>true) true m 3 ((x.cells.drop 1).take (Tryz.prog.cellsOf 3))=some y1:=hf 1 _ rfl;simp only [Zf9,Nd.cells,List.drop_zero,List.drop_succ_cons,List.take_succ_cons,List.take_zero] at e1;obtain ⟨a1,q1,r1,i1⟩:=DataW.trod_int Tryz.underlying3 e1;simp only [List.cons.injEq,and_true,Value.int.injEq,true_and] at q1;rw [q1];exact Z4n i1
theorem Zb3 {n:Nat}{cs:List Value}{y:DataW H × List MemPlace}(h:DataW.trod enc Tryz.prog W 0 (λ_=>true) true n 22 cs=some y) :
 ∃(A:Option Addr) (xs:List Nd) (c:Nat),cs = [.slice A xs.length c]/\xs.length<=c/\c<=9223372036854775807/\Ye W W.heap.size A xs/\NdI xs/\(Zbx 22 y.1->Y0 xs):=by
 obtain ⟨A,xs,c,h1,h2,h3,h4,h5,h6⟩:=Zpy (Good:=λx:Nd=>I64 x.n) Tryz.underlying22 Zh9 Z5s (λ_ _ _ h=>Zp8 h) h;refine ⟨A,xs,c,h1,h2,h3,h4.nds,h5,λhr=>?_⟩;rcases h6 with rfl | ⟨sp,h6⟩
 . intro x hx;cases hx
 . rw [h6] at hr;exact Zqh (H:=H) hr
theorem Zvi {n:Nat}{cs:List Value}{y:DataW H × List MemPlace}(h:DataW.trod enc Tryz.prog W 0 (λ_=>true) true n 107 cs=some y) :
 ∃(A:Option Addr) (xs:List Ud) (c:Nat),cs = [.slice A xs.length c]/\xs.length<=c/\c<=9223372036854775807/\Zxf W W.heap.size A xs/\(Zbx 107 y.1->∀u∈xs,Km u):=by
 obtain ⟨A,xs,c,h1,h2,h3,h4,_,h6⟩:=Zpy (en:=udC) (Good:=λ_=>True) Tryz.underlying107 Zaf Zsj (λ_ _ _ h=>by obtain ⟨u,h1,h2⟩:=Zaq h;exact ⟨u,h1,h2,trivial⟩) h;refine ⟨A,xs,c,h1,h2,h3,h4,λhr u hu=>?_⟩;rcases h6 with rfl | ⟨sp,h6⟩
 . cases hu
 . rw [h6] at hr;exact J3 (H:=H) λn hn=>hr n (Uq Tryz.underlying107 (List.mem_map_of_mem hu) hn)
def EnR (W:World)(x:Eh × En)(d:DataW H):Prop:=
 Zph W W.heap.size x.1 x.2/\NdI x.2.at_/\(Zbx 109 d->Km x.2.u/\(∀p∈x.2.up,Km p)/\Y0 x.2.at_)
theorem Znz {n:Nat}{cs:List Value}{y:DataW H × List MemPlace}(h:DataW.trod enc Tryz.prog W 0 (λ_=>true) true n 109 cs=some y) :
 ∃x:Eh × En,cs=ehC x.1/\EnR W x y.1:=by
 obtain ⟨xs,m,_,hy,hlen,hxl,hf⟩:=DataW.trod_struct Tryz.underlying109 h;rw [Zd1] at hlen;match cs,hlen with
 | [c0,c1,c2,c3],_=>
  match xs,hxl with
  | [y0,y1,y2],_=>
   have e0:DataW.trod enc Tryz.prog W 0 (λ_=>true) true m 34 (([c0,c1,c2,c3].drop 0).take (Tryz.prog.cellsOf 34))=some y0:=hf 0 _ rfl;have e1:DataW.trod enc Tryz.prog W 0 (λ_=>true) true m 107 (([c0,c1,c2,c3].drop 2).take (Tryz.prog.cellsOf 107))=some y1:=hf 1 _ rfl;have e2:DataW.trod enc Tryz.prog W 0 (λ_=>true) true m 22 (([c0,c1,c2,c3].drop 3).take (Tryz.prog.cellsOf 22))=some y2:=hf 2 _ rfl;simp only [Zaf,Zrp,Zb8,List.drop_zero,List.drop_succ_cons,List.take_succ_cons,List.take_zero] at e0 e1 e2;obtain ⟨u,q0,r0⟩:=Zaq e0;obtain ⟨A1,up,c1',q1,l1,m1,s1,z1⟩:=Zvi e1;obtain ⟨A2,at_,c2',q2,l2,m2,s2,i2,z2⟩:=Zb3 e2;simp only [List.cons.injEq,and_true] at q0 q1 q2;obtain ⟨q0,q0'⟩:=q0;subst q0 q0' q1 q2;refine ⟨(⟨u,A1,up.length,c1',A2,at_.length,c2'⟩,⟨u,up,at_⟩),rfl,⟨rfl,rfl,⟨l1,m1⟩,s1,rfl,⟨l2,m2⟩,s2⟩,i2,λhr=>?_⟩;have hd:y.1=.agg [y0.1,y1.1,y2.1]:=(by rw [hy];rfl);rw [hd] at hr;have g:∀{j:Nat} {t:TypeId} {d:DataW H},[34,107,22][j]? = some t->[y0.1,y1.1,y2.1][j]? = some d->Zbx t d:=λht hd n hn=>hr n (by simp only [DataW.weights,Tryz.underlying109];exact DataW.weights_mem_each ht hd n hn);refine ⟨J3 (H:=H) (by rw [<-r0];exact g (j:=0) rfl rfl),z1 (g (j:=1) rfl rfl),z2 (g (j:=2) rfl rfl)⟩
theorem Z4x:Kh (λx:Eh × En=>ehC x.1) 4:=⟨λx=>Zju.len x.1,Zju.pos,λx u hu=>Zju.one x.1 u hu⟩
theorem Zun {b0:Nat}{v:Value}{d:DataW H}{p:List MemPlace}(hv:Value.okWide Tryz.prog W .any b0 42 v)(h:DataW.Trod enc Tryz.prog W 0 (λ_=>true) true 42 v d p) :
 ∃(A:Option Addr) (hs:List Eh) (es:List En) (c:Nat),v=.slice A hs.length c/\hs.length<=c/\c<=9223372036854775807/\(∀e∈es,NdI e.at_)/\(Zbx 42 d->Jg W A hs es):=by
 obtain ⟨a0,len,cap,rfl⟩:=okWide_slice Tryz.underlying42 hv;obtain ⟨fuel,hf⟩:=h;obtain ⟨A,xs,c,q1,h1,h2,h3,h4⟩:=Zi5 (R:=EnR W) Tryz.underlying42 Zd1 Z4x (λ_ _ _ h=>Znz h) hf;simp only [Value.cells,List.cons.injEq,and_true] at q1;have hr:∀x∈xs,∃d':DataW H,EnR W x d'/\(Zbx 42 d->Zbx 109 d'):=λx hx=>by
  rcases h4 with rfl | ⟨sp,ds,hd,h5⟩
  . cases hx
  . obtain ⟨d',hd',hR⟩:=h5 x hx;refine ⟨d',hR,λhr n hn=>hr n ?_⟩;rw [show d=DataW.slice ds sp from hd];exact Uq Tryz.underlying42 hd' hn
 refine ⟨A,xs.map Prod.fst,xs.map Prod.snd,c,by rw [q1,List.length_map],by simpa using h1,h2,λe he=>?_,λhR=>⟨?_,⟨by simp,λi a b ha hb=>?_⟩,λe he=>?_,λe he=>?_,λe he=>?_⟩⟩
 . obtain ⟨x,hx,rfl⟩:=List.mem_map.1 he;obtain ⟨d',hd',_⟩:=hr x hx;exact hd'.2.1
 . intro hne;obtain ⟨b,o,e,hb,hc⟩:=h3 (by intro hc;apply hne;rw [hc];rfl);refine ⟨b,o,e,hb,λi x hx=>?_⟩;rw [List.getElem?_map] at hx;obtain ⟨z,hz,rfl⟩:=Option.map_eq_some_iff.1 hx;exact hc i z hz
 . rw [List.getElem?_map] at ha hb;obtain ⟨z,hz,rfl⟩:=Option.map_eq_some_iff.1 ha;rw [hz] at hb;obtain rfl:z.2=b:=by simpa using hb
   obtain ⟨d',hd',_⟩:=hr z (mG hz);exact hd'.1
 all_goals
  obtain ⟨x,hx,rfl⟩:=List.mem_map.1 he;obtain ⟨d',hd',hw⟩:=hr x hx;have:=hd'.2.2 (hw hR)
 . exact this.1
 . exact this.2.1
 . exact this.2.2
theorem Zmg {b0:Nat}{v:Value}{d:DataW H}{p:List MemPlace}(hv:Value.okWide Tryz.prog W .any b0 39 v)(h:DataW.Trod enc Tryz.prog W 0 (λ_=>true) true 39 v d p) :
 ∃(q:Rq) (A:Option Addr) (c:Nat),v=.agg #[.string q.who.ty,.string q.who.id,.string q.act.ty,.string q.act.id,.string q.what.ty,.string q.what.id,.slice A q.ctx.length c]/\q.ctx.length<=c/\c<=9223372036854775807/\Ye W W.heap.size A q.ctx/\NdI q.ctx /\
  (Zbx 39 d->Km q.who/\Km q.act/\Km q.what/\Y0 q.ctx):=by
 obtain ⟨cs,rfl,hsz⟩:=okWide_struct Tryz.underlying39 hv;obtain ⟨cs⟩:=cs;obtain ⟨fuel,hf⟩:=h;obtain ⟨xs,m,_,hy,hlen,hxl,hf⟩:=DataW.trod_struct Tryz.underlying39 hf;rw [Zjx] at hlen;simp only [Value.cells] at hlen hf;match cs,hlen with
 | [c0,c1,c2,c3,c4,c5,c6],_=>
  match xs,hxl with
  | [y0,y1,y2,y3],_=>
   have e0:DataW.trod enc Tryz.prog W 0 (λ_=>true) true m 34 (([c0,c1,c2,c3,c4,c5,c6].drop 0).take (Tryz.prog.cellsOf 34))=some y0:=hf 0 _ rfl;have e1:DataW.trod enc Tryz.prog W 0 (λ_=>true) true m 34 (([c0,c1,c2,c3,c4,c5,c6].drop 2).take (Tryz.prog.cellsOf 34))=some y1:=hf 1 _ rfl;have e2:DataW.trod enc Tryz.prog W 0 (λ_=>true) true m 34 (([c0,c1,c2,c3,c4,c5,c6].drop 4).take (Tryz.prog.cellsOf 34))=some y2:=hf 2 _ rfl;have e3:DataW.trod enc Tryz.prog W 0 (λ_=>true) true m 22 (([c0,c1,c2,c3,c4,c5,c6].drop 6).take (Tryz.prog.cellsOf 22))=some y3:=hf 3 _ rfl;simp only [Zaf,Zb8,List.drop_zero,List.drop_succ_cons,List.take_succ_cons,List.take_zero] at e0 e1 e2 e3;obtain ⟨u0,q0,r0⟩:=Zaq e0;obtain ⟨u1,q1,r1⟩:=Zaq e1;obtain ⟨u2,q2,r2⟩:=Zaq e2;obtain ⟨A,ctx,c,q3,l3,m3,s3,i3,z3⟩:=Zb3 e3;simp only [List.cons.injEq,and_true] at q0 q1 q2 q3;obtain ⟨q0,q0'⟩:=q0;obtain ⟨q1,q1'⟩:=q1;obtain ⟨q2,q2'⟩:=q2;subst q0 q0' q1 q1' q2 q2' q3;refine ⟨⟨u0,u1,u2,ctx⟩,A,c,rfl,l3,m3,s3,i3,λhr=>?_⟩;have hd:d=.agg [y0.1,y1.1,y2.1,y3.1]:=(Prod.ext_iff.1 hy).1;rw [hd] at hr;have g:∀{j:Nat} {t:TypeId} {d:DataW H},[34,34,34,22][j]? = some t->[y0.1,y1.1,y2.1,y3.1][j]? = some d->Zbx t d:=λht hd n hn=>hr n (by simp only [DataW.weights,Tryz.underlying39];exact DataW.weights_mem_each ht hd n hn);exact ⟨J3 (H:=H) (by rw [<-r0];exact g (j:=0) rfl rfl),J3 (H:=H) (by rw [<-r1];exact g (j:=1) rfl rfl),J3 (H:=H) (by rw [<-r2];exact g (j:=2) rfl rfl),z3 (g (j:=3) rfl rfl)⟩
theorem Zzk:Tryz.prog.readableRec 42=true:=by kernel_rfl
theorem Z3o:42 < Tryz.prog.types.size:=of_decide_eq_true (by kernel_rfl)
theorem Znw:Tryz.prog.readableRec 39=true:=by kernel_rfl
theorem Zru:39 < Tryz.prog.types.size:=of_decide_eq_true (by kernel_rfl)
end
structure PoM where
 p:Po
 cs:List CdM
 A:Option Addr
 c:Nat
def PoM.cells (x:PoM):List Value:=[.string x.p.name,.bool x.p.forbid,.int .i64 x.p.who.op,.string x.p.who.ty,.string x.p.who.uid.ty,.string x.p.who.uid.id,.int .i64 x.p.act.op,.string x.p.act.ty,.string x.p.act.uid.ty,.string x.p.act.uid.id,.int .i64 x.p.what.op,.string x.p.what.ty,.string x.p.what.uid.ty,.string x.p.what.uid.id,.slice x.A x.cs.length x.c]
theorem Zsf:Kh PoM.cells 15:=⟨λ_=>rfl,by omega,λx u hu=>by
 simp only [PoM.cells,List.mem_cons,List.not_mem_nil,or_false] at hu;rcases hu with rfl | rfl | rfl | rfl | rfl | rfl | rfl | rfl | rfl | rfl | rfl | rfl | rfl | rfl | rfl <;> rfl⟩
structure Zbb (w:World)(B:Nat)(x:PoM):Prop where
 same:x.p.conds=x.cs.map CdM.cd
 le:x.cs.length<=x.c
 max:x.c<=9223372036854775807
 z:PoZ x.p
 at_:Zbe w B x.A x.cs
 ni:∀y∈x.cs,NdI y.e
theorem Zbb.below {w w':World}{B:Nat}{x:PoM}(h:Zbb w B x)(hb:Below B w w'):Zbb w' B x:=
 ⟨h.same,h.le,h.max,h.z,⟨h.at_.sl.below hb,λy hy=>(h.at_.good y hy).below hb⟩,h.ni⟩
theorem Zbb.more {w:World}{B B':Nat}{x:PoM}(h:Zbb w B x)(hB:B<=B'):Zbb w B' x:=
 ⟨h.same,h.le,h.max,h.z,⟨h.at_.sl.more hB,λy hy=>(h.at_.good y hy).more hB⟩,h.ni⟩
theorem Zbb.later {w w':World}{x:PoM}(h:Zbb w w.heap.size x)(hb:Below w.heap.size w w'):Zbb w' w'.heap.size x:=(h.below hb).more hb.size
abbrev Z5i:=SlG PoM.cells 15
structure Q6 (w:World)(A:Option Addr)(ps:List PoM):Prop where
 sl:Z5i w w.heap.size A ps
 each:∀x∈ps,Zbb w w.heap.size x
theorem Q6.later {w w':World}{A:Option Addr}{ps:List PoM}(h:Q6 w A ps)(hb:Below w.heap.size w w'):Q6 w' A ps:=
 ⟨h.sl.later hb,λx hx=>(h.each x hx).later hb⟩
theorem Zue {w:World}{B:Nat}{A:Option Addr}{xs:List PoM}(h:Z5i w B A xs){i:Nat}{x:PoM}(hx:xs[i]? = some x):∃b o,A=some ⟨b,o,none⟩/\b < B/\AtG PoM.cells w b (o+i*15) x:=by
 obtain ⟨b,o,e,hb,hc⟩:=h (by intro hc;rw [hc] at hx;simp at hx);exact ⟨b,o,e,hb,hc i x hx⟩
section
variable {H : Type} {enc : TypeId × Value -> H} {W : World}
def CdI (W:World)(x:CdM)(d:DataW H):Prop:=
 x.e.length<=x.c/\x.c<=9223372036854775807/\Ye W W.heap.size x.A x.e/\NdI x.e/\(Zbx 53 d->Y0 x.e)
theorem Zq4 {n:Nat}{cs:List Value}{y:DataW H × List MemPlace}(h:DataW.trod enc Tryz.prog W 0 (λ_=>true) true n 53 cs=some y) :
 ∃x:CdM,cs=x.cells/\CdI W x y.1:=by
 obtain ⟨xs,m,_,hy,hlen,hxl,hf⟩:=DataW.trod_struct Tryz.underlying53 h;rw [Zin] at hlen;match cs,hlen with
 | [c0,c1],_=>
  match xs,hxl with
  | [y0,y1],_=>
   have e0:DataW.trod enc Tryz.prog W 0 (λ_=>true) true m 4 (([c0,c1].drop 0).take (Tryz.prog.cellsOf 4))=some y0:=hf 0 _ rfl;have e1:DataW.trod enc Tryz.prog W 0 (λ_=>true) true m 22 (([c0,c1].drop 1).take (Tryz.prog.cellsOf 22))=some y1:=hf 1 _ rfl;simp only [Zil,Zb8,List.drop_zero,List.drop_succ_cons,List.take_succ_cons,List.take_zero] at e0 e1;obtain ⟨a0,q0,r0⟩:=DataW.trod_bool Tryz.underlying4 e0;obtain ⟨A,e,c,q1,h1,h2,h3,h4,h5⟩:=Zb3 e1;simp only [List.cons.injEq,and_true] at q0 q1;subst q0 q1;refine ⟨⟨a0,A,c,e⟩,rfl,h1,h2,h3,h4,λhr=>h5 ?_⟩;have hd:y.1=.agg [y0.1,y1.1]:=(by rw [hy];rfl);rw [hd] at hr;exact λn hn=>hr n (by simp only [DataW.weights,Tryz.underlying53];exact DataW.weights_mem_each (j:=1) (ts:=[4,22]) rfl rfl n hn)
def PoI (W:World)(x:PoM)(d:DataW H):Prop:=Zbx 47 d->Zbb W W.heap.size x
theorem Zme {n:Nat}{cs:List Value}{y:DataW H × List MemPlace}(h:DataW.trod enc Tryz.prog W 0 (λ_=>true) true n 47 cs=some y) :
 ∃x:PoM,cs=x.cells/\PoI W x y.1:=by
 obtain ⟨xs,m,_,hy,hlen,hxl,hf⟩:=DataW.trod_struct Tryz.underlying47 h;rw [Zd2] at hlen;match cs,hlen with
 | [c0,c1,c2,c3,c4,c5,c6,c7,c8,c9,c10,c11,c12,c13,c14],_=>
  match xs,hxl with
  | [y0,y1,y2,y3,y4,y5],_=>
   have e0:DataW.trod enc Tryz.prog W 0 (λ_=>true) true m 9 (([c0,c1,c2,c3,c4,c5,c6,c7,c8,c9,c10,c11,c12,c13,c14].drop 0).take (Tryz.prog.cellsOf 9))=some y0:=hf 0 _ rfl;have e1:DataW.trod enc Tryz.prog W 0 (λ_=>true) true m 4 (([c0,c1,c2,c3,c4,c5,c6,c7,c8,c9,c10,c11,c12,c13,c14].drop 1).take (Tryz.prog.cellsOf 4))=some y1:=hf 1 _ rfl;have e2:DataW.trod enc Tryz.prog W 0 (λ_=>true) true m 44 (([c0,c1,c2,c3,c4,c5,c6,c7,c8,c9,c10,c11,c12,c13,c14].drop 2).take (Tryz.prog.cellsOf 44))=some y2:=hf 2 _ rfl;have e3:DataW.trod enc Tryz.prog W 0 (λ_=>true) true m 44 (([c0,c1,c2,c3,c4,c5,c6,c7,c8,c9,c10,c11,c12,c13,c14].drop 6).take (Tryz.prog.cellsOf 44))=some y3:=hf 3 _ rfl;have e4:DataW.trod enc Tryz.prog W 0 (λ_=>true) true m 44 (([c0,c1,c2,c3,c4,c5,c6,c7,c8,c9,c10,c11,c12,c13,c14].drop 10).take (Tryz.prog.cellsOf 44))=some y4:=hf 4 _ rfl;have e5:DataW.trod enc Tryz.prog W 0 (λ_=>true) true m 45 (([c0,c1,c2,c3,c4,c5,c6,c7,c8,c9,c10,c11,c12,c13,c14].drop 14).take (Tryz.prog.cellsOf 45))=some y5:=hf 5 _ rfl;simp only [Zck,Zil,Zgt,Zow,List.drop_zero,List.drop_succ_cons,List.take_succ_cons,List.take_zero] at e0 e1 e2 e3 e4 e5;obtain ⟨a0,q0,r0,_⟩:=DataW.trod_string Tryz.underlying9 e0;obtain ⟨a1,q1,r1⟩:=DataW.trod_bool Tryz.underlying4 e1;obtain ⟨s2,q2,r2⟩:=Zdk e2;obtain ⟨s3,q3,r3⟩:=Zdk e3;obtain ⟨s4,q4,r4⟩:=Zdk e4;obtain ⟨A,ms,c,q5,h1,h2,h3,h4⟩:=Zi5 (R:=CdI W) Tryz.underlying45 Zin Zxc (λ_ _ _ h=>Zq4 h) e5;simp only [List.cons.injEq,and_true] at q0 q1 q2 q3 q4 q5;obtain ⟨g0,g1,g2,g3⟩:=q2;obtain ⟨k0,k1,k2,k3⟩:=q3;obtain ⟨l0,l1,l2,l3⟩:=q4;subst q0 q1 g0 g1 g2 g3 k0 k1 k2 k3 l0 l1 l2 l3 q5 r0;refine ⟨⟨⟨a0,a1,s2,s3,s4,ms.map CdM.cd⟩,ms,A,c⟩,rfl,λhr=>?_⟩;have hd:y.1=.agg [Zkh a0,y1.1,Zao s2,Zao s3,Zao s4,y5.1]:=by
    rw [hy];show DataW.agg [_,_,y2.1,y3.1,y4.1,_]=_;rw [r2,r3,r4];rfl
   rw [hd] at hr;have g:∀{j:Nat} {t:TypeId} {d:DataW H},[9,4,44,44,44,45][j]? = some t->[Zkh a0,y1.1,Zao s2,Zao s3,Zao s4,y5.1][j]? = some d->Zbx t d:=λht hd n hn=>hr n (by simp only [DataW.weights,Tryz.underlying47];exact DataW.weights_mem_each ht hd n hn);have hc:∀x∈ms,x.e.length<=x.c/\x.c<=9223372036854775807/\Ye W W.heap.size x.A x.e/\NdI x.e/\Y0 x.e:=λx hx=>by
    rcases h4 with rfl | ⟨sp,ds,hs,h5⟩
    . cases hx
    . obtain ⟨d,hd,hR⟩:=h5 x hx;refine ⟨hR.1,hR.2.1,hR.2.2.1,hR.2.2.2.1,hR.2.2.2.2 λn hn=>?_⟩;refine g (j:=5) rfl rfl n ?_;rw [hs];exact Uq Tryz.underlying45 hd hn
   exact ⟨rfl,h1,h2,⟨Xo (g (j:=0) rfl rfl _ (by simp [Zkh,DataW.weights])),Zdo (H:=H) (g (j:=2) rfl rfl),Zdo (H:=H) (g (j:=3) rfl rfl),Zdo (H:=H) (g (j:=4) rfl rfl)⟩,
    ⟨h3,λx hx=>⟨(hc x hx).2.2.1,(hc x hx).1,(hc x hx).2.1,(hc x hx).2.2.2.2⟩⟩,λx hx=>(hc x hx).2.2.2.1⟩
theorem Zjw {b0:Nat}{v:Value}{d:DataW H}{p:List MemPlace}(hv:Value.okWide Tryz.prog W .any b0 67 v)(h:DataW.Trod enc Tryz.prog W 0 (λ_=>true) true 67 v d p) :
 ∃(A:Option Addr) (ps:List PoM) (c:Nat),v=.slice A ps.length c/\ps.length<=c/\c<=9223372036854775807/\(Zbx 67 d->Q6 W A ps):=by
 obtain ⟨a0,len,cap,rfl⟩:=okWide_slice Tryz.underlying67 hv;obtain ⟨fuel,hf⟩:=h;obtain ⟨A,xs,c,q1,h1,h2,h3,h4⟩:=Zi5 (R:=PoI W) Tryz.underlying67 Zd2 Zsf (λ_ _ _ h=>Zme h) hf;simp only [Value.cells,List.cons.injEq,and_true] at q1;refine ⟨A,xs,c,q1,h1,h2,λhr=>⟨h3,λx hx=>?_⟩⟩;rcases h4 with rfl | ⟨sp,ds,hd,h5⟩
 . cases hx
 . obtain ⟨d',hd',hR⟩:=h5 x hx;refine hR λn hn=>hr n ?_;rw [show d=DataW.slice ds sp from hd];exact Uq Tryz.underlying67 hd' hn
theorem Zl2:Tryz.prog.readableRec 67=true:=by kernel_rfl
theorem Zob:67 < Tryz.prog.types.size:=of_decide_eq_true (by kernel_rfl)
end
end Go.Proofs.YtpheiojmcafolaaGreatDoor
