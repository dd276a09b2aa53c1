/-
 THE WALKS: auth.vote.
-/
import Derived.Test.YtpheiojmcafolaaGreatDoorSz19
import Derived.Test.YtpheiojmcafolaaGreatDoorSz26
set_option maxRecDepth 100000
set_option maxHeartbeats 25600000
namespace Go.Proofs.YtpheiojmcafolaaGreatDoor
open Go.RowKit Go.Sort
structure Zdy (x:Aq)(w:World):Prop where
 ents:Jg w x.Ea x.hs x.es
 ai:∀e∈x.es,NdI e.at_
 ec:x.hs.length<=x.ec
 ctx:Ye w w.heap.size x.qa x.q.ctx
 qc:x.q.ctx.length<=x.qc/\x.qc<=9223372036854775807
 qk:Y0 x.q.ctx
 qi:NdI x.q.ctx
 qz:Km x.q.who/\Km x.q.act/\Km x.q.what
 err:Yy w
theorem Zdy.later {x:Aq}{w w':World}(h:Zdy x w)(hb:RowKit.Below w.heap.size w w'):Zdy x w':=
 ⟨h.ents.later hb,h.ai,h.ec,(h.ctx.below hb).more hb.size,h.qc,h.qk,h.qi,h.qz,h.err.below hb h.err.lt⟩
def Aq.ev (x:Aq)(e:List Nd)(ea:Option Addr)(eca:Nat):Evl:=⟨x.es,x.hs,x.Ea,x.ec,x.q,x.qa,x.qc,e,ea,eca⟩
theorem Zdy.va {x:Aq}{w:World}(h:Zdy x w){e:List Nd}{ea:Option Addr}{eca:Nat}(h1:Ye w w.heap.size ea e)(h2:e.length<=eca)(h3:eca<=9223372036854775807)(h4:Y0 e)(h5:NdI e):Zms (x.ev e ea eca) w:=
 ⟨h.ents,h.ai,h.ec,h.ctx,h.qc,h.qk,h.qi,h.qz,h1,⟨h2,h3⟩,h4,h5,h.err⟩
def vtR (V:Rs (List Nd)):Int:=match V with
 | .ok v=>if opH v=1 then (if nH v=1 then 1 else 0) else -1
 | .bad _=>-1
theorem Zwk {es:List En}{q:Rq}{e v:List Nd}(h:Jd es q e=.ok v):Zb v=0:=by
 unfold Jd at h;split at h
 . cases h
 . split at h
   . cases h
   . rename_i hq;split at h
     . cases h
     . rename_i ht;exact Zno (Classical.not_not.1 hq) _ e ((Xd e).1 (Classical.not_not.1 ht)).2 h
theorem Zw1 {es:List En}{q:Rq}{e:List Nd}{k:Int}(h:Jd es q e=.bad k):k≠0:=by
 unfold Jd at h;split at h
 . rename_i h1;injection h with h;rw [<-h];exact h1
 . split at h
   . rename_i h1;injection h with h;rw [<-h];exact h1
   . split at h
     . rename_i h1;injection h with h;rw [<-h];exact h1
     . rename_i ht;exact Zxb es q _ e (nL _) ((Xd e).1 (Classical.not_not.1 ht)).2 k h
theorem Zvj (x:Aq)(y:PoM)(w:World)(hI:Zdy x w)(hy:Zbb w w.heap.size y)(h2:(Yv y.p).2=0) :
 Calls Tryz.prog 73 #[.slice x.Ea x.hs.length x.ec,.agg #[.string y.p.name,.bool y.p.forbid,.int .i64 y.p.who.op,.string y.p.who.ty,.string y.p.who.uid.ty,.string y.p.who.uid.id,.int .i64 y.p.act.op,.string y.p.act.ty,.string y.p.act.uid.ty,.string y.p.act.uid.id,.int .i64 y.p.what.op,.string y.p.what.ty,.string y.p.what.uid.ty,.string y.p.what.uid.id,.slice y.A y.cs.length y.c],.agg #[.string x.q.who.ty,.string x.q.who.id,.string x.q.act.ty,.string x.q.act.id,.string x.q.what.ty,.string x.q.what.id,.slice x.qa x.q.ctx.length x.qc]] w λr w'=>r=.returned (.tuple #[.bool (vtQ x.es x.q y==1),.bool (vtQ x.es x.q y == -1)])/\RowKit.Below w.heap.size w w':=by
 obtain ⟨hk,hL,ht⟩:=Qd h2;have hni:NdI (Yv y.p).1:=Zwz h2 (λc hc=>by rw [hy.same] at hc;obtain ⟨z,hz,rfl⟩:=List.mem_map.1 hc;exact hy.ni z hz);have HP:=Ld (λW (hW:RowKit.Below w.heap.size w W)=>Zay y.p y.cs y.A y.c W hy.same hy.z (hy.later hW).at_ (Nat.le_trans hy.le hy.max));have HV:=Ld (λW (hW:RowKit.Below w.heap.size w W) A' c' (h1:Ye W W.heap.size A' (Yv y.p).1) (g2:(Yv y.p).1.length<=c') (g3:c'<=9223372036854775807)=>Zqb (x.ev (Yv y.p).1 A' c') W ((hI.later hW).va h1 g2 g3 (Z29 ht) hni));rw [h2] at HP;have b0:Blk ((w.alloc (.cells #[.string y.p.name,.bool y.p.forbid,.int .i64 y.p.who.op,.string y.p.who.ty,.string y.p.who.uid.ty,.string y.p.who.uid.id,.int .i64 y.p.act.op,.string y.p.act.ty,.string y.p.act.uid.ty,.string y.p.act.uid.id,.int .i64 y.p.what.op,.string y.p.what.ty,.string y.p.what.uid.ty,.string y.p.what.uid.id,.slice y.A y.cs.length y.c] 47)).alloc (.cells #[.string x.q.who.ty,.string x.q.who.id,.string x.q.act.ty,.string x.q.act.id,.string x.q.what.ty,.string x.q.what.id,.slice x.qa x.q.ctx.length x.qc] 39)) (w.heap.size+1) 39 #[.string x.q.who.ty,.string x.q.who.id,.string x.q.act.ty,.string x.q.act.id,.string x.q.what.ty,.string x.q.what.id,.slice x.qa x.q.ctx.length x.qc]:=by
  have:=Blk.new (w.alloc (.cells #[.string y.p.name,.bool y.p.forbid,.int .i64 y.p.who.op,.string y.p.who.ty,.string y.p.who.uid.ty,.string y.p.who.uid.id,.int .i64 y.p.act.op,.string y.p.act.ty,.string y.p.act.uid.ty,.string y.p.act.uid.id,.int .i64 y.p.what.op,.string y.p.what.ty,.string y.p.what.uid.ty,.string y.p.what.uid.id,.slice y.A y.cs.length y.c] 47)) 39 #[.string x.q.who.ty,.string x.q.who.id,.string x.q.act.ty,.string x.q.act.id,.string x.q.what.ty,.string x.q.what.id,.slice x.qa x.q.ctx.length x.qc];rwa [World.size_alloc] at this
 have hb0:RowKit.Below w.heap.size w ((w.alloc (.cells #[.string y.p.name,.bool y.p.forbid,.int .i64 y.p.who.op,.string y.p.who.ty,.string y.p.who.uid.ty,.string y.p.who.uid.id,.int .i64 y.p.act.op,.string y.p.act.ty,.string y.p.act.uid.ty,.string y.p.act.uid.id,.int .i64 y.p.what.op,.string y.p.what.ty,.string y.p.what.uid.ty,.string y.p.what.uid.id,.slice y.A y.cs.length y.c] 47)).alloc (.cells #[.string x.q.who.ty,.string x.q.who.id,.string x.q.act.ty,.string x.q.act.id,.string x.q.what.ty,.string x.q.what.id,.slice x.qa x.q.ctx.length x.qc] 39)):=by (repeat (first | assumption | exact bR | apply bD | apply Za | refine bA ?_ _))
 have B0:=Ld b0;have HB0:=Ld hb0;obtain ⟨V,hV⟩:∃V,Jd x.es x.q (Yv y.p).1=V:=⟨_,rfl⟩;have hvt:vtQ x.es x.q y=vtR V:=by unfold vtQ;rw [hV];rfl
 rw [hvt];have hV2:Jd (x.ev (Yv y.p).1 none 0).es (x.ev (Yv y.p).1 none 0).q (x.ev (Yv y.p).1 none 0).e=V:=hV;have HV3:Hid (∀W,RowKit.Below w.heap.size w W->∀A' c',Ye W W.heap.size A' (Yv y.p).1->(Yv y.p).1.length<=c'->c'<=9223372036854775807->Calls Tryz.prog 19 #[.slice x.Ea x.hs.length x.ec,.agg #[.string x.q.who.ty,.string x.q.who.id,.string x.q.act.ty,.string x.q.act.id,.string x.q.what.ty,.string x.q.what.id,.slice x.qa x.q.ctx.length x.qc],.slice A' (Yv y.p).1.length c'] W λr w'=>X5 W r w' (rsL V) (rsE V)):=by
  intro W hW A' c' a1 a2 a3;have:=HV.out W hW A' c' a1 a2 a3;rw [<-hV];exact this
 have hok:∀v,V=.ok v->Zb v=0:=λv e=>Zwk (hV.trans e);have hnz:∀k,V=.bad k->k≠0:=λk e=>Zw1 (hV.trans e);clear HV hV hV2 hvt b0 hb0 hI hy hk hL ht hni h2;generalize (Yv y.p).1=L at HP HV3;cases V with
 | bad k=>
  have hk:=hnz k rfl;rw [show vtR (Rs.bad k) = -1 from rfl];have t1:(k != 0)=true:=by simpa using hk
  rw [show rsL (Rs.bad k:Rs (List Nd)) = [] from rfl,show rsE (Rs.bad k:Rs (List Nd))=k from rfl] at HV3;clear hok hnz hk;go_enter Tryz.func73,Tryz.ntmps73
  go_wp2_with fail
  refine (HP.out _ HB0.out).mono ?_;rintro r w1 ⟨A1,c1,rfl,hl1,hm1,hs1,hb1⟩;have B1:=Ld (B0.out.below hb1 B0.out.lt);have HB1:=Ld (HB0.out.trans (hb1.mono HB0.out.size));have HS1:=Ld hs1;have cc:=B1.out.cell;have ll:=B1.out.lt;clear hb1 hs1 B0 HB0;go_wp2_with fail
  refine (HV3.out _ HB1.out _ _ HS1.out hl1 hm1).mono ?_;rintro r w2 ⟨A2,c2,rfl,hl2,hm2,hs2,hb2,-⟩;go_wp2_with fail
  go_ret2
  exact ⟨rfl,HB1.out.trans (hb2.mono HB1.out.size)⟩
 | ok v=>
  have hv:=hok v rfl;obtain ⟨z,rr,rfl,-⟩:=((Z0 v).1 hv).2.ne;rw [show rsL (Rs.ok (z :: rr):Rs (List Nd))=z :: rr from rfl,show rsE (Rs.ok (z :: rr):Rs (List Nd))=0 from rfl] at HV3;have hvt2:vtR (Rs.ok (z :: rr))=if z.op=1 then (if z.n=1 then 1 else 0) else -1:=rfl;rw [hvt2];clear hok hnz hv hvt2;by_cases h1:z.op=1
  . have t1:(z.op != 1)=false:=(by simp [h1]);have e1:((if z.op=1 then (if z.n=1 then (1:Int) else 0) else -1)==1)=(z.n==1):=by
     rw [if_pos h1];by_cases h:z.n=1 <;> simp [h]
    have e2:((if z.op=1 then (if z.n=1 then (1:Int) else 0) else -1) == -1)=false:=by
     rw [if_pos h1];by_cases h:z.n=1 <;> simp [h]
    rw [e1,e2];clear h1 e1 e2;go_enter Tryz.func73,Tryz.ntmps73
    go_wp2_with fail
    refine (HP.out _ HB0.out).mono ?_;rintro r w1 ⟨A1,c1,rfl,hl1,hm1,hs1,hb1⟩;have B1:=Ld (B0.out.below hb1 B0.out.lt);have HB1:=Ld (HB0.out.trans (hb1.mono HB0.out.size));have HS1:=Ld hs1;have cc:=B1.out.cell;have ll:=B1.out.lt;clear hb1 hs1 B0 HB0;go_wp2_with fail
    refine (HV3.out _ HB1.out _ _ HS1.out hl1 hm1).mono ?_;rintro r w2 ⟨A2,c2,rfl,hl2,hm2,hs2,hb2,-⟩;obtain ⟨b,o,rfl,hbl,hcs⟩:=hs2 (by simp);obtain ⟨d0,d1,d2,d3⟩:=hcs 0 z rfl;rw [Nat.zero_mul,Nat.add_zero] at d0 d1;have HB2:=Ld (HB1.out.trans (hb2.mono HB1.out.size));have hzl:(z :: rr).length=rr.length+1:=rfl;rw [hzl];clear hcs hb2 hl2 hm2 cc ll B1 HB1 HS1 hzl;go_wp2_with fail
    go_ret2
    exact ⟨rfl,HB2.out⟩
  . have t1:(z.op != 1)=true:=(by simpa using h1);have e1:((if z.op=1 then (if z.n=1 then (1:Int) else 0) else -1)==1)=false:=(by rw [if_neg h1];rfl);have e2:((if z.op=1 then (if z.n=1 then (1:Int) else 0) else -1) == -1)=true:=(by rw [if_neg h1];rfl);rw [e1,e2];clear h1 e1 e2;go_enter Tryz.func73,Tryz.ntmps73
    go_wp2_with fail
    refine (HP.out _ HB0.out).mono ?_;rintro r w1 ⟨A1,c1,rfl,hl1,hm1,hs1,hb1⟩;have B1:=Ld (B0.out.below hb1 B0.out.lt);have HB1:=Ld (HB0.out.trans (hb1.mono HB0.out.size));have HS1:=Ld hs1;have cc:=B1.out.cell;have ll:=B1.out.lt;clear hb1 hs1 B0 HB0;go_wp2_with fail
    refine (HV3.out _ HB1.out _ _ HS1.out hl1 hm1).mono ?_;rintro r w2 ⟨A2,c2,rfl,hl2,hm2,hs2,hb2,-⟩;obtain ⟨b,o,rfl,hbl,hcs⟩:=hs2 (by simp);obtain ⟨d0,d1,d2,d3⟩:=hcs 0 z rfl;rw [Nat.zero_mul,Nat.add_zero] at d0 d1;have HB2:=Ld (HB1.out.trans (hb2.mono HB1.out.size));have hzl:(z :: rr).length=rr.length+1:=rfl;rw [hzl];clear hcs hb2 hl2 hm2 cc ll B1 HB1 HS1 hzl;go_wp2_with fail
    go_ret2
    exact ⟨rfl,HB2.out⟩
theorem Ui {w w':World}{b i:Nat}{v:Value}(h:RowKit.Below w.heap.size w w')(hb:b < w.heap.size)(hc:w.cell? ⟨b,i,none⟩=some v):w'.cell? ⟨b,i,none⟩=some v:=(h.cell (p:=⟨b,i,none⟩) hb).trans hc
end Go.Proofs.YtpheiojmcafolaaGreatDoor
