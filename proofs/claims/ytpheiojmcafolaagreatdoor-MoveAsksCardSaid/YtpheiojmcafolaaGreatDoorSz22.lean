/-
 THE WALKS: (*eval.evaluation).in.
-/
import Derived.Test.YtpheiojmcafolaaGreatDoorSz21
import Derived.RangeFuncBox
import Derived.RangeFuncLeaves
import Derived.Shelf.Abstract
import Derived.OwnWalkIn
import Derived.TacticsInMore
import Derived.LoopNIn
import Derived.LoopIn
import Derived.StringKeys
set_option maxRecDepth 100000
set_option maxHeartbeats 25600000
namespace Go.Proofs.YtpheiojmcafolaaGreatDoor
open Go.RowKit Go.Sort
structure Zgu (x:Evl)(xb:Nat)(a:List Nd)(A:Option Addr)(c bx ba:Nat)(W:World):Prop where
 s0:W.cell? ⟨bx,0,none⟩=some (.pointer (some ⟨xb,0,none⟩))
 s1:W.cell? ⟨xb,0,none⟩=some (.slice x.Ea x.hs.length x.ec)
 s2:W.cell? ⟨ba,0,none⟩=some (.slice A a.length c)
 l0:bx < W.heap.size
 l1:xb < W.heap.size
 l2:ba < W.heap.size
 ev:V0 x xb W
 va:Yr a A c W
theorem Zgu.later {x:Evl}{xb:Nat}{a:List Nd}{A:Option Addr}{c bx ba:Nat}{W W':World}(h:Zgu x xb a A c bx ba W)(hb:RowKit.Below W.heap.size W W'):Zgu x xb a A c bx ba W':=
 ⟨(hb.cell (p:=⟨bx,0,none⟩) h.l0).trans h.s0,(hb.cell (p:=⟨xb,0,none⟩) h.l1).trans h.s1,(hb.cell (p:=⟨ba,0,none⟩) h.l2).trans h.s2,Nat.lt_of_lt_of_le h.l0 hb.size,Nat.lt_of_lt_of_le h.l1 hb.size,Nat.lt_of_lt_of_le h.l2 hb.size,h.ev.keep (hb.mono (Nat.le_of_lt h.l1)),h.va.later hb⟩
structure InC (x:Evl)(xb:Nat)(a:List Nd)(A:Option Addr)(c bx ba:Nat)(w0 W:World):Prop where
 s0:W.cell? ⟨bx,0,none⟩=some (.pointer (some ⟨xb,0,none⟩))
 s1:W.cell? ⟨xb,0,none⟩=some (.slice x.Ea x.hs.length x.ec)
 s2:W.cell? ⟨ba,0,none⟩=some (.slice A a.length c)
 cap:Zgu x xb a A c bx ba W
 bel:RowKit.Below w0.heap.size w0 W
theorem InC.of {x:Evl}{xb:Nat}{a:List Nd}{A:Option Addr}{c bx ba:Nat}{w0 W:World}(h:Zgu x xb a A c bx ba w0)(hb:RowKit.Below w0.heap.size w0 W):InC x xb a A c bx ba w0 W:=⟨(h.later hb).s0,(h.later hb).s1,(h.later hb).s2,h.later hb,hb⟩
theorem Zk5 {v:List Nd}(h:Y0 v):Za2 (udH v):=by
 cases v with
 | nil=>exact ⟨Nat.zero_le _,Nat.zero_le _⟩
 | cons x r=>
  have:=h x (by simp);exact ⟨by show x.s.size<=_;unfold maxLen;omega,by show x.t.size<=_;unfold maxLen;omega⟩
theorem Z47 (x:Evl)(xb:Nat)(a:List Nd)(A:Option Addr)(c bx ba:Nat)(y:NsM)(w:World)(h:Zgu x xb a A c bx ba w)(hy:Yr y.e y.A y.c w) :
 Calls Tryz.prog 150 #[.slice y.A y.e.length y.c,.pointer (some ⟨bx,0,none⟩),.pointer (some ⟨ba,0,none⟩)] w λr w'=>r=.returned (.bool (inB x.es (udH a) (udH y.e)))/\RowKit.Below w.heap.size w w':=by
 have HS0:=Ld (λW (hW:RowKit.Below w.heap.size w W)=>InC.of h hW);have HUA:=Ld (λW (hW:RowKit.Below w.heap.size w W)=>Zjp a A c W (h.later hW).va);have HUY:=Ld (λW (hW:RowKit.Below w.heap.size w W)=>Zjp y.e y.A y.c W (hy.later hW));have HIN:=Ld (λW (hW:RowKit.Below w.heap.size w W)=>by
  have hh:=h.later hW;have hi:=Z4f x.hs x.es (udH a) (udH y.e) x.Ea x.ec W (hh.ev.ents (Nat.le_of_lt hh.l1)) hh.ev.ec (Zk5 hh.va.nd) (Zk5 hy.nd);rw [hh.ev.ok,if_pos rfl] at hi;exact hi)
 have HT:=Ld (λW (hW:RowKit.Below w.heap.size w W)=>Q8 (.bool (inB x.es (udH a) (udH y.e))) 0 W (h.later hW).ev.err);have hd:RowKit.Below w.heap.size w w.drew:=by (repeat (first | assumption | exact bR | apply bD | apply Za | refine bA ?_ _))
 generalize inB x.es (udH a) (udH y.e)=q at HIN HT ⊢;generalize udH a=ua at HUA HIN;generalize udH y.e=uy at HUY HIN;have HSD:=Ld (HS0.out w.drew hd);clear h hy;go_enter Tryz.func150,Tryz.ntmps150
 go_wp2_with fail
 refine Zg (S:=InC x xb a A c bx ba w) [(0,false),(1,false),(2,false),(3,false),(4,false),(6,false),(5,true),(7,true),(8,true),(9,false),(10,false),(11,true),(12,false)] (by kernel_rfl) (by kernel_rfl) (λ_ _ _ _ _ h=>h) HSD.out (λhW'=>?_);simp only [Yl,List.filterMap_cons,List.filterMap_nil,List.getElem?_cons_zero,List.getElem?_cons_succ,Option.map_some];(repeat ((first | (refine Ze (v:=?_) (by rfl) ?_ ?_;rotate_left;(focus (intro W hW;obtain ⟨s0,s1,s2,s3,s4⟩:=hW;go_simp;try with_reducible rfl))) | refine Zd (by rfl) ?_);simp only [Act.put,pA,pB,pC]))
 . refine Zc (λK hK=>?_);go_simp
   refine (HUA.out _ hd).mono ?_;rintro r w1 ⟨rfl,hb1'⟩;have hw1:RowKit.Below w.heap.size w w1:=hd.trans (hb1'.mono hd.size);refine hK _ _ (HS0.out w1 hw1) ?_;clear hK K hb1';refine Zc (λK hK=>?_);go_simp
   refine (HUY.out w1 hw1).mono ?_;rintro r w2 ⟨rfl,hb2⟩;have hw2:RowKit.Below w.heap.size w w2:=hw1.trans (hb2.mono hw1.size);refine hK _ _ (HS0.out w2 hw2) ?_;clear hK K hb2;refine Zc (λK hK=>?_);go_simp
   refine (HIN.out w2 hw2).mono ?_;rintro r w3 ⟨rfl,hb3⟩;have hw3:RowKit.Below w.heap.size w w3:=hw2.trans (hb3.mono hw2.size);refine hK _ _ (HS0.out w3 hw3) ?_;clear hK K hb3;(repeat ((first | (refine Ze (v:=?_) (by rfl) ?_ ?_;rotate_left;(focus (intro W hW;obtain ⟨s0,s1,s2,s3,s4⟩:=hW;go_simp;try with_reducible rfl))) | refine Zd (by rfl) ?_);simp only [Act.put,pA,pB,pC]))
   refine Zc (λK hK=>?_);go_simp
   refine (HT.out w3 hw3).mono ?_;rintro r w4 ⟨hr,hb4⟩;have hr2:=hr.1 (by simp);subst hr2;have hw4:RowKit.Below w.heap.size w w4:=hw3.trans (hb4.mono hw3.size);refine hK _ _ (HS0.out w4 hw4) ?_;clear hK K hb4 hr;(repeat ((first | (refine Ze (v:=?_) (by rfl) ?_ ?_;rotate_left;(focus (intro W hW;obtain ⟨s0,s1,s2,s3,s4⟩:=hW;go_simp;try with_reducible rfl))) | refine Zd (by rfl) ?_);simp only [Act.put,pA,pB,pC]))
   refine Yj ?_;go_wp2_with fail
   go_ret
   exact ⟨rfl,hw4⟩
theorem Zwm (x:Evl)(xb:Nat)(a:List Nd)(A:Option Addr)(c bx ba:Nat)(w0:World)(hcl:Zgu x xb a A c bx ba w0)(ps:List NsM)(Ap:Option Addr)(cp:Nat)(w:World)(hw0:RowKit.Below w0.heap.size w0 w)(hvl:∀y∈ps,Zb y.e=0/\Y0 y.e)(hl:ps.length<=9223372036854775807)(hs:X8 w Ap ps) :
 Calls Tryz.prog 175 #[.slice Ap ps.length cp,.func (.func 150) #[] #[.pointer (some ⟨bx,0,none⟩),.pointer (some ⟨ba,0,none⟩)]] w λr w'=>(∃k:Int,r=.returned (.int .i64 k)/\decide (0<=k)=ps.any (λy=>inB x.es (udH a) (udH y.e)))/\RowKit.Below w.heap.size w w':=by
 have HM:=Ld hcl;have HW0:=Ld hw0;have HVL:=Ld (λ(y:NsM) (hy:y∈ps) W (hW:RowKit.Below w.heap.size w W)=>(have g:=(hs.later hW).good y hy;show Yr y.e y.A y.c W from ⟨(hvl y hy).1,(hvl y hy).2,g.le,g.max,g.sl⟩));have HS:=Ld hs;clear hcl hs hw0 hvl;go_enter Tryz.func175,Tryz.ntmps175
 go_wp2_with fail
 go_loopw [8] (λkk wr=>∃k:Nat,kk=.int .i64 k/\k<=ps.length/\Hid ((ps.take k).any (λy=>inB x.es (udH a) (udH y.e))=false)/\RowKit.Below w.heap.size w wr) (λkk _=>ps.length - (intOf kk).toNat)
 case atStart=>exact ⟨0,rfl,by omega,by simp [Hid],RowKit.Below.refl _ _⟩
 case round=>
  obtain ⟨k,rfl,hk,HK,hbr⟩:=hrel;have hzr:=hbr.size;by_cases hlt:k < ps.length
  . obtain ⟨x1,hx⟩:∃x1,ps[k]? = some x1:=⟨_,gE hlt⟩;obtain ⟨b1,o1,rfl,hb1,d0⟩:=V4 (HS.out.later hbr).sl hx;have HX:=Ld hx;have HC:=Ld (Z47 x xb a A c bx ba x1 wr (HM.out.later (HW0.out.trans (hbr.mono HW0.out.size))) (HVL.out x1 (mG hx) wr hbr));clear hx;cases hh:inB x.es (udH a) (udH x1.e) with
    | true=>
     have HH:=Ld hh;rw [hh] at HC;clear hh;go_wp2_with fail
     refine HC.out.mono ?_;rintro r w1 ⟨rfl,hb2⟩;have hw1:=hbr.trans (hb2.mono hbr.size);clear hb2 d0;go_wp2_with fail
     go_ret
     refine ⟨⟨k,rfl,?_⟩,hw1⟩;rw [Zdu (f:=λe=>inB x.es (udH a) (udH e)) HX.out HH.out];simp
    | false=>
     have HH:=Ld hh;rw [hh] at HC;clear hh;go_wp2_with fail
     refine HC.out.mono ?_;rintro r w1 ⟨rfl,hb2⟩;have hw1:=hbr.trans (hb2.mono hbr.size);clear hb2 d0;go_wp2_with fail
     exact ⟨⟨k+1,by go_num,by omega,Zsh (f:=λe=>inB x.es (udH a) (udH e)) HX.out HK.out HH.out,hw1⟩,by simp [intOf];omega⟩
  . have HE:Hid (ps.any (λy=>inB x.es (udH a) (udH y.e))=false):=by
     have:=HK.out;rw [List.take_of_length_le (by omega)] at this;exact this
    go_wp2_with fail
    go_ret
    exact ⟨⟨-1,rfl,by rw [HE.out];rfl⟩,hbr⟩
theorem Zd3 (x:Evl)(xb:Nat)(a:List Nd)(A:Option Addr)(c bx ba:Nat)(w0:World)(hcl:Zgu x xb a A c bx ba w0)(ps:List NsM)(Ap:Option Addr)(cp:Nat)(w:World)(hw0:RowKit.Below w0.heap.size w0 w)(hvl:∀y∈ps,Zb y.e=0/\Y0 y.e)(hl:ps.length<=9223372036854775807)(hs:X8 w Ap ps) :
 Calls Tryz.prog 149 #[.slice Ap ps.length cp,.func (.func 150) #[] #[.pointer (some ⟨bx,0,none⟩),.pointer (some ⟨ba,0,none⟩)]] w λr w'=>r=.returned (.bool (ps.any (λy=>inB x.es (udH a) (udH y.e))))/\RowKit.Below w.heap.size w w':=by
 have HI:=Ld (Zwm x xb a A c bx ba w0 hcl ps Ap cp w hw0 hvl hl hs);clear hcl hs hw0 hvl;generalize ps.any (λy=>inB x.es (udH a) (udH y.e))=q at HI ⊢;go_enter Tryz.func149,Tryz.ntmps149
 go_wp2_with fail
 refine HI.out.mono ?_;rintro r w1 ⟨⟨k,rfl,hk⟩,hb1⟩;have HK:=Ld hk;clear hk;go_wp2_with fail
 go_ret
 exact ⟨Vj HK.out,hb1⟩
def Zaj (w:World)(r:Ending)(w':World)(q:Rs Bool):Prop:=(∀t,q=.ok t->r=.returned (.bool t))/\(∀k,q=.bad k->r=.panicked (noV k))/\RowKit.Below w.heap.size w w'
theorem Zaj.ok {w w':World}{t:Bool}(h:RowKit.Below w.heap.size w w'):Zaj w (.returned (.bool t)) w' (.ok t):=⟨λu hu=>(by injection hu with hu;rw [hu]),λk hk=>(by cases hk),h⟩
theorem Zaj.no {w w':World}{k:Int}(h:RowKit.Below w.heap.size w w'):Zaj w (.panicked (noV k)) w' (.bad k):=⟨λu hu=>(by cases hu),λj hj=>(by injection hj with hj;rw [hj]),h⟩
def Zeg (b:List Nd):List (List Nd):=if opH b=5 then Z8 b else [b]
theorem Z35 {es:List En}{a b:List Nd}(hb:Zb b=0):Zp2 es a b=if opH a=4 then (if (Zeg b).all (λt=>opH t==4)=true then .ok ((Zeg b).any λt=>inB es (udH a) (udH t)) else .bad 2) else .bad 2:=by
 unfold Zp2 Vi Zeg;simp only [Rs.bind];by_cases h:opH a=4
 . simp only [h,if_true];by_cases h5:opH b=5
   . simp only [h5,if_true];rw [(Zai hb).1 h5]
   . simp only [h5,if_false]
 . simp only [h,if_false]
theorem Zwq (W:World)(B:Option Addr)(d:Nat)(b:List Nd)(h:Yr b B d W):X8 (W.alloc (.cells #[.slice B b.length d] 22)) (some ⟨W.heap.size,0,none⟩) [⟨B,d,b⟩]:=by
 have hb:RowKit.Below W.heap.size W (W.alloc (.cells #[.slice B b.length d] 22)):=by (repeat (first | assumption | exact bR | apply bD | apply Za | refine bA ?_ _))
 refine ⟨?_,λy hy=>?_⟩
 . have:=Zs3 Zbv W 22 [(⟨B,d,b⟩:NsM)] #[.slice B b.length d] rfl;rwa [World.size_alloc]
 . simp at hy;subst hy;have g:=h.later hb;exact ⟨g.sl,g.le,g.max⟩
theorem Zo5 {ms:List NsM}{k:Nat}{y:NsM}(hy:ms[k]? = some y)(h:(ms.take k).all (λy=>opH y.e==4)=true)(hh:opH y.e=4):(ms.take (k+1)).all (λy=>opH y.e==4)=true:=by
 rw [List.take_add_one,hy,List.all_append,h];simp [hh]
theorem Z1s (x:Evl)(xb i:Nat)(a b:List Nd)(A B:Option Addr)(c d:Nat)(w:World)(hx:V0 x xb w)(hB:Blk w xb 99 (x.cells i))(ha:Yr a A c w)(hb:Yr b B d w) :
 Calls Tryz.prog 120 #[.pointer (some ⟨xb,0,none⟩),.slice A a.length c,.slice B b.length d] w λr w'=>Zaj w r w' (Zp2 x.es a b):=by
 rw [Z35 hb.ok];obtain ⟨w0,hw0⟩:∃w0,(w.alloc (.cells #[.pointer (some ⟨xb,0,none⟩)] 97)).alloc (.cells #[.slice A a.length c] 100)=w0:=⟨_,rfl⟩;have hb0:RowKit.Below w.heap.size w w0:=by rw [<-hw0];(repeat (first | assumption | exact bR | apply bD | apply Za | refine bA ?_ _))
 have hz0:w0.heap.size=w.heap.size+2:=by rw [<-hw0];simp
 have a0:w0.cell? ⟨w.heap.size,0,none⟩=some (.pointer (some ⟨xb,0,none⟩)):=by rw [<-hw0,World.cell?_alloc_lt _ _ ⟨w.heap.size,0,none⟩ (by simp)];simp [World.cell?_alloc_new]
 have a1:w0.cell? ⟨w.heap.size+1,0,none⟩=some (.slice A a.length c):=by rw [<-hw0];simp [go_sem]
 have hxb:=hB.lt;have HCAP:Hid (Zgu x xb a A c w.heap.size (w.heap.size+1) w0):=⟨a0,(hB.below hb0 hxb).cell 0,a1,by omega,by omega,by omega,hx.keep (hb0.mono (Nat.le_of_lt hxb)),ha.later hb0⟩;have HM:=Ld (Yo a 4 A c w0 (ha.later hb0));have HVB:=Ld (hb.later hb0);have HW0:=Ld hw0;have HB0:=Ld hb0;have hlt0:w.heap.size+1 < w0.heap.size:=by omega
 clear hx hB ha hb hw0 hb0 hz0 hxb;by_cases h4:opH a=4
 . rw [if_pos h4];have H4:=Ld h4;clear h4;have hL:RowKit.Below w0.heap.size w0 (w0.alloc (.cells #[.slice B b.length d] 22)):=by (repeat (first | assumption | exact bR | apply bD | apply Za | refine bA ?_ _))
   have HL:=Ld hL;have HONE:=Ld (Zwq w0 B d b HVB.out);have HIS:=Ld (Zmr b 5 B d _ (HVB.out.later hL));have HPT:=Ld (have g:=HVB.out.later hL;Zcj b B d _ g.le g.max g.nd g.sl);have HTL:=Ld (λy W (hW:RowKit.Below w0.heap.size w0 W)=>Zqo y 0 W ((HCAP.out.later hW).ev.err));clear hL;by_cases h5:opH b=5
   . have t5:(opH b==5)=true:=(by simp [h5]);rw [t5] at HIS;have HTP:Hid (Zeg b=Z8 b):=(by show _=_;unfold Zeg;rw [if_pos h5]);rw [(Zai HVB.out.ok).1 h5] at HPT;have HVP:Hid (∀p∈Z8 b,Zb p=0/\Y0 p):=λp hp=>⟨(Z0 p).2 ⟨Zd5 HVB.out.ok hp,Zmk HVB.out.ok h5 p hp⟩,HVB.out.nd.sub (Zf1 hp)⟩;have HFW:=Ld (Zab HVB.out.ok (.inl h5));rw [HTP.out];obtain ⟨tp,htp⟩:∃tp,Z8 b=tp:=⟨_,rfl⟩;rw [htp] at HPT HVP HFW ⊢;obtain ⟨qq,hqq⟩:∃qq,(if tp.all (λt=>opH t==4)=true then (Rs.ok (tp.any λt=>inB x.es (udH a) (udH t)):Rs Bool) else .bad 2)=qq:=⟨_,rfl⟩;rw [hqq];have HQQ:=Ld hqq;clear hqq;clear h5 t5 htp HTP;go_enter Tryz.func120,Tryz.ntmps120
     go_wp2_with fail
     rw [HW0.out];refine HM.out.mono ?_;rintro r w1 ⟨hr,rfl⟩;have hr2:=hr.1 H4.out;subst hr2;clear hr;go_wp2_with fail
     refine HIS.out.mono ?_;rintro r w2 ⟨rfl,rfl⟩;go_wp2_with fail
     refine HPT.out.mono ?_;rintro r w3 ⟨Ap,cp,ms,rfl,h1,h2,h3,h4,h5,h6,h7⟩;have HL3:=Ld (HL.out.trans (h5.mono HL.out.size));have HE:=Ld h1;have HNS3:=Ld h4;clear h1 h4 h5 h6 h7;simp only [rsE];go_wp2_with fail
     refine (HTL.out _ w3 HL3.out).mono ?_;rintro r w4 ⟨hr,hb4⟩;have hr2:=hr.1 (by simp);subst hr2;have HL4:=Ld (HL3.out.trans (hb4.mono HL3.out.size));have HNS4:=Ld (HNS3.out.later hb4);have HE2:Hid (ms.map NsM.e=tp):=HE.out;have HVV:Hid (∀y∈ms,Zb y.e=0/\Y0 y.e):=λy hy=>HVP.out y.e (by rw [<-HE2.out];exact List.mem_map_of_mem hy);have hml:ms.length<=1000:=(by have:=congrArg List.length HE2.out;simp only [List.length_map] at this;have:=HFW.out;omega);clear hr hb4;have HCAP4:=Ld (HCAP.out.later HL4.out);have HW4:=Ld (HB0.out.trans (HL4.out.mono HB0.out.size));go_wp2_with fail
     go_loopw [23] (λkk wr=>∃k:Nat,kk=.int .i64 k/\k<=ms.length/\Hid ((ms.take k).all (λy=>opH y.e==4)=true)/\RowKit.Below w4.heap.size w4 wr) (λkk _=>ms.length - (intOf kk).toNat)
     case atStart=>exact ⟨0,rfl,by omega,rfl,RowKit.Below.refl _ _⟩
     case round=>
      obtain ⟨k,rfl,hk,HK,hbr⟩:=hrel;have hzr:=hbr.size;have HWR:=Ld (HW4.out.trans (hbr.mono HW4.out.size));by_cases hlt:k < ms.length
      . obtain ⟨y,hy⟩:∃y,ms[k]? = some y:=⟨_,gE hlt⟩;have hym:=mG hy;obtain ⟨bm,om,rfl,hbm,hcy⟩:=V4 (HNS4.out.later hbr).sl hy;have gy:=(HNS4.out.later hbr).good y hym;have HMY:=Ld (Yo y.e 4 y.A y.c wr ⟨(HVV.out y hym).1,(HVV.out y hym).2,gy.le,gy.max,gy.sl⟩);have HY:=Ld hy;have HYM:=Ld hym;clear hy hym gy;by_cases hy4:opH y.e=4
        . have HK2:Hid ((ms.take (k+1)).all (λy=>opH y.e==4)=true):=Zo5 HY.out HK.out hy4;have HY4:=Ld hy4;clear hy4;go_wp2_with fail
          refine HMY.out.mono ?_;rintro r w5 ⟨hr,rfl⟩;have hr2:=hr.1 HY4.out;subst hr2;clear hr;go_wp2_with fail
          exact ⟨⟨k+1,by go_num,by omega,HK2,hbr⟩,by simp [intOf];omega⟩
        . have HAF:Hid (tp.all (λt=>opH t==4)=false):=by
           show _=_;rw [<-HE2.out,List.all_map,List.all_eq_false];exact ⟨y,HYM.out,by simpa using hy4⟩
          have HY4:=Ld hy4;clear hy4;go_wp2_with fail
          refine HMY.out.mono ?_;rintro r w5 ⟨hr,rfl⟩;have hr2:=hr.2 HY4.out;subst hr2;clear hr;go_wp2_with fail
          have e:=HQQ.out;rw [HAF.out] at e;rw [<-e];exact ⟨rfl,Zaj.no HWR.out⟩
      . have HAT:Hid (tp.all (λt=>opH t==4)=true):=by
         show _=_;have:=HK.out;rw [List.take_of_length_le (by omega)] at this;rw [<-HE2.out,List.all_map];exact this
        have HCN:=Ld (Zd3 x xb a A c w.heap.size (w.heap.size+1) w4 HCAP4.out ms Ap cp wr hbr HVV.out (by omega) (HNS4.out.later hbr));have HAN:Hid ((ms.any λy=>inB x.es (udH a) (udH y.e))=(tp.any λt=>inB x.es (udH a) (udH t))):=(by show _=_;rw [<-HE2.out,List.any_map];rfl);rw [HAN.out] at HCN;obtain ⟨q,hq⟩:∃q,(tp.any λt=>inB x.es (udH a) (udH t))=q:=⟨_,rfl⟩;rw [hq] at HCN;have HQ:=Ld hq;clear hq HAN;go_wp2_with fail
        refine HCN.out.mono ?_;rintro r w5 ⟨rfl,hb5⟩;have hw5:=HWR.out.trans (hb5.mono HWR.out.size);clear hb5;go_wp2_with fail
        go_ret
        have e:=HQQ.out;rw [HAT.out,HQ.out] at e;rw [<-e];exact Zaj.ok hw5
   . have t5:(opH b==5)=false:=(by simp [h5]);rw [t5] at HIS;have HTP:Hid (Zeg b = [b]):=(by show _=_;unfold Zeg;rw [if_neg h5]);rw [HTP.out];obtain ⟨tp,htp⟩:∃tp,[b]=tp:=⟨_,rfl⟩;rw [htp];have HTT:=Ld htp;obtain ⟨qq,hqq⟩:∃qq,(if tp.all (λt=>opH t==4)=true then (Rs.ok (tp.any λt=>inB x.es (udH a) (udH t)):Rs Bool) else .bad 2)=qq:=⟨_,rfl⟩;rw [hqq];have HQQ:=Ld hqq;clear hqq;clear h5 t5 htp HTP HPT HTL;go_enter Tryz.func120,Tryz.ntmps120
     go_wp2_with fail
     rw [HW0.out];refine HM.out.mono ?_;rintro r w1 ⟨hr,rfl⟩;have hr2:=hr.1 H4.out;subst hr2;clear hr;go_wp2_with fail
     refine HIS.out.mono ?_;rintro r w4 ⟨rfl,rfl⟩;obtain ⟨ms,hms⟩:∃ms:List NsM,ms = [⟨B,d,b⟩]:=⟨_,rfl⟩;have HE2:Hid (ms.map NsM.e=tp):=(by show _=_;rw [hms,<-HTT.out];rfl);have HVV:Hid (∀y∈ms,Zb y.e=0/\Y0 y.e):=λy hy=>by rw [hms] at hy;simp at hy;subst hy;exact ⟨HVB.out.ok,HVB.out.nd⟩
     have hml:ms.length<=1000:=(by rw [hms];simp);have hl1:ms.length=1:=(by rw [hms];rfl);have HL1:=Ld hl1;have HL4:=HL;have HNS4:Hid (X8 (w1.alloc (.cells #[.slice B b.length d] 22)) (some ⟨w1.heap.size,0,none⟩) ms):=(by rw [hms];exact HONE.out);clear hms hl1;obtain ⟨w4,hw4⟩:∃w4,w1.alloc (.cells #[.slice B b.length d] 22)=w4:=⟨_,rfl⟩;obtain ⟨Ap,hAp⟩:∃Ap,(some ⟨w1.heap.size,0,none⟩:Option Addr)=Ap:=⟨_,rfl⟩;obtain ⟨cp,hcp⟩:∃cp,1=cp:=⟨1,rfl⟩;have hgl:Value.slice (some ⟨w1.heap.size,0,none⟩) 1 1=.slice Ap ms.length cp:=(by rw [hAp,<-hcp,HL1.out]);rw [hw4] at HL4 HNS4 ⊢;rw [hAp] at HNS4;rw [hgl];clear hgl hw4 hAp hcp;have HCAP4:=Ld (HCAP.out.later HL4.out);have HW4:=Ld (HB0.out.trans (HL4.out.mono HB0.out.size));go_wp2_with fail
     go_loopw [23] (λkk wr=>∃k:Nat,kk=.int .i64 k/\k<=ms.length/\Hid ((ms.take k).all (λy=>opH y.e==4)=true)/\RowKit.Below w4.heap.size w4 wr) (λkk _=>ms.length - (intOf kk).toNat)
     case atStart=>exact ⟨0,rfl,by omega,rfl,RowKit.Below.refl _ _⟩
     case round=>
      obtain ⟨k,rfl,hk,HK,hbr⟩:=hrel;have hzr:=hbr.size;have HWR:=Ld (HW4.out.trans (hbr.mono HW4.out.size));by_cases hlt:k < ms.length
      . obtain ⟨y,hy⟩:∃y,ms[k]? = some y:=⟨_,gE hlt⟩;have hym:=mG hy;obtain ⟨bm,om,rfl,hbm,hcy⟩:=V4 (HNS4.out.later hbr).sl hy;have gy:=(HNS4.out.later hbr).good y hym;have HMY:=Ld (Yo y.e 4 y.A y.c wr ⟨(HVV.out y hym).1,(HVV.out y hym).2,gy.le,gy.max,gy.sl⟩);have HY:=Ld hy;have HYM:=Ld hym;clear hy hym gy;by_cases hy4:opH y.e=4
        . have HK2:Hid ((ms.take (k+1)).all (λy=>opH y.e==4)=true):=Zo5 HY.out HK.out hy4;have HY4:=Ld hy4;clear hy4;go_wp2_with fail
          refine HMY.out.mono ?_;rintro r w5 ⟨hr,rfl⟩;have hr2:=hr.1 HY4.out;subst hr2;clear hr;go_wp2_with fail
          exact ⟨⟨k+1,by go_num,by omega,HK2,hbr⟩,by simp [intOf];omega⟩
        . have HAF:Hid (tp.all (λt=>opH t==4)=false):=by
           show _=_;rw [<-HE2.out,List.all_map,List.all_eq_false];exact ⟨y,HYM.out,by simpa using hy4⟩
          have HY4:=Ld hy4;clear hy4;go_wp2_with fail
          refine HMY.out.mono ?_;rintro r w5 ⟨hr,rfl⟩;have hr2:=hr.2 HY4.out;subst hr2;clear hr;go_wp2_with fail
          have e:=HQQ.out;rw [HAF.out] at e;rw [<-e];exact ⟨rfl,Zaj.no HWR.out⟩
      . have HAT:Hid (tp.all (λt=>opH t==4)=true):=by
         show _=_;have:=HK.out;rw [List.take_of_length_le (by omega)] at this;rw [<-HE2.out,List.all_map];exact this
        have HCN:=Ld (Zd3 x xb a A c w.heap.size (w.heap.size+1) w4 HCAP4.out ms Ap cp wr hbr HVV.out (by omega) (HNS4.out.later hbr));have HAN:Hid ((ms.any λy=>inB x.es (udH a) (udH y.e))=(tp.any λt=>inB x.es (udH a) (udH t))):=(by show _=_;rw [<-HE2.out,List.any_map];rfl);rw [HAN.out] at HCN;obtain ⟨q,hq⟩:∃q,(tp.any λt=>inB x.es (udH a) (udH t))=q:=⟨_,rfl⟩;rw [hq] at HCN;have HQ:=Ld hq;clear hq HAN;go_wp2_with fail
        refine HCN.out.mono ?_;rintro r w5 ⟨rfl,hb5⟩;have hw5:=HWR.out.trans (hb5.mono HWR.out.size);clear hb5;go_wp2_with fail
        go_ret
        have e:=HQQ.out;rw [HAT.out,HQ.out] at e;rw [<-e];exact Zaj.ok hw5
 . rw [if_neg h4];have H4:=Ld h4;clear h4;go_enter Tryz.func120,Tryz.ntmps120
   go_wp2_with fail
   rw [HW0.out];refine HM.out.mono ?_;rintro r w1 ⟨hr,rfl⟩;have hr2:=hr.2 H4.out;subst hr2;clear hr;go_wp2_with fail
   exact ⟨rfl,Zaj.no HB0.out⟩
theorem Z1b {a b:List Nd}{k:Int}(ha:Zb a=0)(hb:Zb b=0)(h:J1 a b=.bad k):k≠0:=by
 unfold J1 at h;rw [if_neg (by simp [ha]),if_neg (by simp [hb])] at h;split at h
 . cases h
 . injection h with h;omega
theorem Zt0 {f:List (List Nd)->List (List Nd)->Bool}{a b:List Nd}{k:Int}(ha:Zb a=0)(hb:Zb b=0)(h:Zan f a b=.bad k):k≠0:=by
 rw [Zfz f ha hb] at h;split at h
 . cases h
 . injection h with h;omega
theorem Zyi {a b:List Nd}{k:Int}(ha:Zb a=0)(hb:Zb b=0)(h:Zeb a b=.bad k):k≠0:=Zt0 ha hb h
theorem Z1w {a b:List Nd}{k:Int}(ha:Zb a=0)(hb:Zb b=0)(h:Zee a b=.bad k):k≠0:=Zt0 ha hb h
theorem Zwd (xb:Nat)(a b:List Nd)(A B:Option Addr)(c d:Nat)(w:World)(es:List En)(ha:Yr a A c w)(hb:Yr b B d w) :
 Calls Tryz.prog 90 #[.pointer (some ⟨xb,0,none⟩),.int .i64 14,.slice A a.length c,.slice B b.length d] w λr w'=>Zp w r w' (Yn es 14 a b):=by
 have HE:=Ld (Zu0 a b A B c d w ha.sl hb.sl (by have:=ha.le;have:=ha.max;omega));have HQ:Hid (Yn es 14 a b=.ok [bN (decide (a=b))]):=rfl;rw [HQ.out];generalize decide (a=b)=q at HE ⊢;clear ha hb HQ;go_enter Tryz.func90,Tryz.ntmps90
 go_wp2_with fail
 refine HE.out.mono ?_;rintro r w1 ⟨rfl,hb1⟩;have HB1:=Ld hb1;clear hb1;go_wp2_with fail
 refine (Xt q w1).mono ?_;rintro r w2 hnew;have HN:=Ld (X3.from hnew HB1.out);obtain ⟨A2,c2,rfl,-⟩:=hnew;go_wp2_with fail
 go_ret
 exact Zp.ok HN.out
theorem Zvt (xb:Nat)(a b:List Nd)(A B:Option Addr)(c d:Nat)(w:World)(x:Evl)(i:Nat)(hx:V0 x xb w)(hB:Blk w xb 99 (x.cells i))(ha:Yr a A c w)(hb:Yr b B d w) :
 Calls Tryz.prog 90 #[.pointer (some ⟨xb,0,none⟩),.int .i64 20,.slice A a.length c,.slice B b.length d] w λr w'=>Zp w r w' (Yn x.es 20 a b):=by
 have HI:=Ld (Z1s x xb i a b A B c d w hx hB ha hb);have HQ:Hid (Yn x.es 20 a b=(Zp2 x.es a b).bind λr=>.ok [bN r]):=rfl;rw [HQ.out];generalize Zp2 x.es a b=q at HI ⊢;clear hx hB ha hb HQ;go_enter Tryz.func90,Tryz.ntmps90
 go_wp2_with fail
 refine HI.out.mono ?_;rintro r w1 ⟨hr1,hr2,hb1⟩;have HB1:=Ld hb1;clear hb1;cases q with
 | ok t=>
  have hr:=hr1 t rfl;subst hr;clear hr1 hr2;go_wp2_with fail
  refine (Xt t w1).mono ?_;rintro r w2 hnew;have HN:=Ld (X3.from hnew HB1.out);obtain ⟨A2,c2,rfl,-⟩:=hnew;go_wp2_with fail
  go_ret
  exact Zp.ok HN.out
 | bad k=>
  have hr:=hr2 k rfl;subst hr;clear hr1 hr2;go_wp2_with fail
  exact ⟨rfl,Zp.no HB1.out⟩
theorem Zri (xb:Nat)(a b:List Nd)(A B:Option Addr)(c d:Nat)(w:World)(es:List En)(ha:Yr a A c w)(hb:Yr b B d w)(hg:Yy w) :
 Calls Tryz.prog 90 #[.pointer (some ⟨xb,0,none⟩),.int .i64 25,.slice A a.length c,.slice B b.length d] w λr w'=>Zp w r w' (Yn es 25 a b):=by
 have HI:=Ld (Z1v a b A B c d w ha hb);have HERR:=Ld (λW (hW:RowKit.Below w.heap.size w W)=>hg.below hW hg.lt);have HQ:Hid (Yn es 25 a b=(J1 a b).bind λr=>.ok [bN r]):=rfl;rw [HQ.out];have HQE:Hid (∀k,J1 a b=.bad k->k≠0):=λk hk=>Z1b ha.ok hb.ok hk;generalize J1 a b=q at HI HQE ⊢;clear ha hb HQ hg;go_enter Tryz.func90,Tryz.ntmps90
 go_wp2_with fail
 refine HI.out.mono ?_;rintro r w1 ⟨rfl,hb1⟩;have HB1:=Ld hb1;clear hb1;go_wp2_with fail
 refine (Q8 (.bool (rsB q)) (rsE q) w1 (HERR.out w1 HB1.out)).mono ?_;rintro r w2 ⟨hr,hb2⟩;have HB2:=Ld (HB1.out.trans (hb2.mono HB1.out.size));clear hb2;cases q with
 | ok t=>
  have hr2:=hr.1 rfl;subst hr2;clear hr;go_wp2_with fail
  refine (Xt t w2).mono ?_;rintro r w3 hnew;have HN:=Ld (X3.from hnew HB2.out);obtain ⟨A2,c2,rfl,-⟩:=hnew;go_wp2_with fail
  go_ret
  exact Zp.ok HN.out
 | bad k=>
  have hr2:=hr.2 (HQE.out k rfl);subst hr2;clear hr;go_wp2_with fail
  exact ⟨rfl,Zp.no HB2.out⟩
theorem Zra (xb:Nat)(a b:List Nd)(A B:Option Addr)(c d:Nat)(w:World)(es:List En)(ha:Yr a A c w)(hb:Yr b B d w)(hg:Yy w) :
 Calls Tryz.prog 90 #[.pointer (some ⟨xb,0,none⟩),.int .i64 26,.slice A a.length c,.slice B b.length d] w λr w'=>Zp w r w' (Yn es 26 a b):=by
 have HI:=Ld (Z3m a b A B c d w ha hb);have HERR:=Ld (λW (hW:RowKit.Below w.heap.size w W)=>hg.below hW hg.lt);have HQ:Hid (Yn es 26 a b=(Zeb a b).bind λr=>.ok [bN r]):=rfl;rw [HQ.out];have HQE:Hid (∀k,Zeb a b=.bad k->k≠0):=λk hk=>Zyi ha.ok hb.ok hk;generalize Zeb a b=q at HI HQE ⊢;clear ha hb HQ hg;go_enter Tryz.func90,Tryz.ntmps90
 go_wp2_with fail
 refine HI.out.mono ?_;rintro r w1 ⟨rfl,hb1⟩;have HB1:=Ld hb1;clear hb1;go_wp2_with fail
 refine (Q8 (.bool (rsB q)) (rsE q) w1 (HERR.out w1 HB1.out)).mono ?_;rintro r w2 ⟨hr,hb2⟩;have HB2:=Ld (HB1.out.trans (hb2.mono HB1.out.size));clear hb2;cases q with
 | ok t=>
  have hr2:=hr.1 rfl;subst hr2;clear hr;go_wp2_with fail
  refine (Xt t w2).mono ?_;rintro r w3 hnew;have HN:=Ld (X3.from hnew HB2.out);obtain ⟨A2,c2,rfl,-⟩:=hnew;go_wp2_with fail
  go_ret
  exact Zp.ok HN.out
 | bad k=>
  have hr2:=hr.2 (HQE.out k rfl);subst hr2;clear hr;go_wp2_with fail
  exact ⟨rfl,Zp.no HB2.out⟩
theorem Zre (xb:Nat)(a b:List Nd)(A B:Option Addr)(c d:Nat)(w:World)(es:List En)(ha:Yr a A c w)(hb:Yr b B d w)(hg:Yy w) :
 Calls Tryz.prog 90 #[.pointer (some ⟨xb,0,none⟩),.int .i64 27,.slice A a.length c,.slice B b.length d] w λr w'=>Zp w r w' (Yn es 27 a b):=by
 have HI:=Ld (Z1i a b A B c d w ha hb);have HERR:=Ld (λW (hW:RowKit.Below w.heap.size w W)=>hg.below hW hg.lt);have HQ:Hid (Yn es 27 a b=(Zee a b).bind λr=>.ok [bN r]):=rfl;rw [HQ.out];have HQE:Hid (∀k,Zee a b=.bad k->k≠0):=λk hk=>Z1w ha.ok hb.ok hk;generalize Zee a b=q at HI HQE ⊢;clear ha hb HQ hg;go_enter Tryz.func90,Tryz.ntmps90
 go_wp2_with fail
 refine HI.out.mono ?_;rintro r w1 ⟨rfl,hb1⟩;have HB1:=Ld hb1;clear hb1;go_wp2_with fail
 refine (Q8 (.bool (rsB q)) (rsE q) w1 (HERR.out w1 HB1.out)).mono ?_;rintro r w2 ⟨hr,hb2⟩;have HB2:=Ld (HB1.out.trans (hb2.mono HB1.out.size));clear hb2;cases q with
 | ok t=>
  have hr2:=hr.1 rfl;subst hr2;clear hr;go_wp2_with fail
  refine (Xt t w2).mono ?_;rintro r w3 hnew;have HN:=Ld (X3.from hnew HB2.out);obtain ⟨A2,c2,rfl,-⟩:=hnew;go_wp2_with fail
  go_ret
  exact Zp.ok HN.out
 | bad k=>
  have hr2:=hr.2 (HQE.out k rfl);subst hr2;clear hr;go_wp2_with fail
  exact ⟨rfl,Zp.no HB2.out⟩
structure DbS (b1 o1 b2 o2:Nat)(m n:Int)(w0 W:World):Prop where
 s0:W.cell? ⟨b1,o1+1,none⟩=some (.int .i64 m)
 s1:W.cell? ⟨b2,o2+1,none⟩=some (.int .i64 n)
 eq:W=w0.drew
theorem Kc {es:List En}{op:Int}{a b:List Nd}(ho:op=15\/op=16\/op=17\/op=18\/op=19):Yn es op a b=if opH a=2 then (if opH b=2 then (if op=15 then .ok [bN (decide (nH a < nH b))] else if op=16 then .ok [bN (decide (nH a<=nH b))] else (numR op (nH a) (nH b)).bind λn=>.ok [nN n]) else .bad 2) else .bad 2:=by
 unfold Yn Vi;rw [if_neg (show ¬op=14 by omega),if_neg (show ¬op=20 by omega),if_neg (show ¬op=25 by omega),if_neg (show ¬op=26 by omega),if_neg (show ¬op=27 by omega)];simp only [Rs.bind];by_cases h1:opH a=2
 . simp only [h1,if_true];by_cases h2:opH b=2
   . simp only [h2,if_true]
   . simp only [h2,if_false]
 . simp only [h1,if_false]
theorem Zvd (xb:Nat)(a b:List Nd)(A B:Option Addr)(c d:Nat)(w:World)(es:List En)(ha:Yr a A c w)(hb:Yr b B d w) :
 Calls Tryz.prog 90 #[.pointer (some ⟨xb,0,none⟩),.int .i64 15,.slice A a.length c,.slice B b.length d] w λr w'=>Zp w r w' (Yn es 15 a b):=by
 have HMA:=Ld (Yo a 2 A c w.drew (ha.later (by (repeat (first | assumption | exact bR | apply bD | apply Za | refine bA ?_ _)))));have HMB:=Ld (Yo b 2 B d w.drew (hb.later (by (repeat (first | assumption | exact bR | apply bD | apply Za | refine bA ?_ _)))));rw [Kc (by omega)];obtain ⟨y,yr,b1,o1,hy,rfl,hb1,⟨-,y1,-,-⟩,-,hny,-,-,hyl⟩:=ha.head;obtain ⟨z,zr,b2,o2,hz,rfl,hb2,⟨-,z1,-,-⟩,-,hnz,-,-,hzl⟩:=hb.head;rw [hny,hnz];have hia:=Um b1 o1 a.length c hyl;have hib:=Um b2 o2 b.length d hzl;rw [if_pos rfl];obtain ⟨tq,htq⟩:∃tq,decide (y.n < z.n)=tq:=⟨_,rfl⟩;rw [htq];have HS0:Hid (DbS b1 o1 b2 o2 y.n z.n w w.drew):=⟨y1,z1,rfl⟩;have HD:Hid (RowKit.Below w.heap.size w w.drew):=by show RowKit.Below _ _ _;(repeat (first | assumption | exact bR | apply bD | apply Za | refine bA ?_ _))
 have heq:(15:Int)=15:=rfl;clear ha hb hy hz hny hnz hyl hzl heq;by_cases h1:opH a=2
 . rw [if_pos h1];have H1:=Ld h1;clear h1;by_cases h2:opH b=2
   . rw [if_pos h2];have H2:=Ld h2;clear h2;go_enter Tryz.func90,Tryz.ntmps90
     go_wp2_with fail
     refine Zg (S:=DbS b1 o1 b2 o2 y.n z.n w) [(0,false),(5,false),(1,true),(2,false),(3,false),(4,false),(6,true),(7,false),(8,false),(9,false),(10,false),(11,false)] (by kernel_rfl) (by kernel_rfl) (λ_ _ _ _ _ h=>h) HS0.out (λhW'=>?_);simp only [Yl,List.filterMap_cons,List.filterMap_nil,List.getElem?_cons_zero,List.getElem?_cons_succ,Option.map_some];(repeat ((first | (refine Ze (v:=?_) (by rfl) ?_ ?_;rotate_left;(focus (intro W hW;obtain ⟨s0,s1,s2⟩:=hW;go_simp;try with_reducible rfl))) | refine Zd (by rfl) ?_);simp only [Act.put,pA,pB,pC]))
     refine Zc (λK hK=>?_);go_simp
     refine HMA.out.mono ?_;rintro r w1 ⟨hr,rfl⟩;have hr2:=hr.1 H1.out;subst hr2;refine hK _ _ HS0.out ?_;clear hK K hr;(repeat ((first | (refine Ze (v:=?_) (by rfl) ?_ ?_;rotate_left;(focus (intro W hW;obtain ⟨s0,s1,s2⟩:=hW;go_simp;try with_reducible rfl))) | refine Zd (by rfl) ?_);simp only [Act.put,pA,pB,pC]))
     refine Zc (λK hK=>?_);go_simp
     refine HMB.out.mono ?_;rintro r w1 ⟨hr,rfl⟩;have hr2:=hr.1 H2.out;subst hr2;refine hK _ _ HS0.out ?_;clear hK K hr;(repeat ((first | (refine Ze (v:=?_) (by rfl) ?_ ?_;rotate_left;(focus (intro W hW;obtain ⟨s0,s1,s2⟩:=hW;go_simp;try with_reducible rfl))) | refine Zd (by rfl) ?_);simp only [Act.put,pA,pB,pC]))
     refine Yj ?_;go_wp2_with fail
     refine (Xt tq _).mono ?_;rintro r w2 hnew;have HN:=Ld (X3.from hnew HD.out);obtain ⟨A2,c2,rfl,-⟩:=hnew;go_wp2_with fail
     go_ret
     exact Zp.ok HN.out
   . rw [if_neg h2];have H2:=Ld h2;clear h2;go_enter Tryz.func90,Tryz.ntmps90
     go_wp2_with fail
     refine Zg (S:=DbS b1 o1 b2 o2 y.n z.n w) [(0,false),(5,false),(1,true),(2,false),(3,false),(4,false),(6,true),(7,false),(8,false),(9,false),(10,false),(11,false)] (by kernel_rfl) (by kernel_rfl) (λ_ _ _ _ _ h=>h) HS0.out (λhW'=>?_);simp only [Yl,List.filterMap_cons,List.filterMap_nil,List.getElem?_cons_zero,List.getElem?_cons_succ,Option.map_some];(repeat ((first | (refine Ze (v:=?_) (by rfl) ?_ ?_;rotate_left;(focus (intro W hW;obtain ⟨s0,s1,s2⟩:=hW;go_simp;try with_reducible rfl))) | refine Zd (by rfl) ?_);simp only [Act.put,pA,pB,pC]))
     refine Zc (λK hK=>?_);go_simp
     refine HMA.out.mono ?_;rintro r w1 ⟨hr,rfl⟩;have hr2:=hr.1 H1.out;subst hr2;refine hK _ _ HS0.out ?_;clear hK K hr;(repeat ((first | (refine Ze (v:=?_) (by rfl) ?_ ?_;rotate_left;(focus (intro W hW;obtain ⟨s0,s1,s2⟩:=hW;go_simp;try with_reducible rfl))) | refine Zd (by rfl) ?_);simp only [Act.put,pA,pB,pC]))
     refine Zc (λK hK=>?_);go_simp
     refine HMB.out.mono ?_;rintro r w1 ⟨hr,rfl⟩;have hr2:=hr.2 H2.out;subst hr2;dsimp only;clear hK K hr;go_wp2_with fail
     exact ⟨rfl,Zp.no HD.out⟩
 . rw [if_neg h1];have H1:=Ld h1;clear h1;go_enter Tryz.func90,Tryz.ntmps90
   go_wp2_with fail
   refine Zg (S:=DbS b1 o1 b2 o2 y.n z.n w) [(0,false),(5,false),(1,true),(2,false),(3,false),(4,false),(6,true),(7,false),(8,false),(9,false),(10,false),(11,false)] (by kernel_rfl) (by kernel_rfl) (λ_ _ _ _ _ h=>h) HS0.out (λhW'=>?_);simp only [Yl,List.filterMap_cons,List.filterMap_nil,List.getElem?_cons_zero,List.getElem?_cons_succ,Option.map_some];(repeat ((first | (refine Ze (v:=?_) (by rfl) ?_ ?_;rotate_left;(focus (intro W hW;obtain ⟨s0,s1,s2⟩:=hW;go_simp;try with_reducible rfl))) | refine Zd (by rfl) ?_);simp only [Act.put,pA,pB,pC]))
   refine Zc (λK hK=>?_);go_simp
   refine HMA.out.mono ?_;rintro r w1 ⟨hr,rfl⟩;have hr2:=hr.2 H1.out;subst hr2;dsimp only;clear hK K hr;go_wp2_with fail
   exact ⟨rfl,Zp.no HD.out⟩
theorem Zv6 (xb:Nat)(a b:List Nd)(A B:Option Addr)(c d:Nat)(w:World)(es:List En)(ha:Yr a A c w)(hb:Yr b B d w) :
 Calls Tryz.prog 90 #[.pointer (some ⟨xb,0,none⟩),.int .i64 16,.slice A a.length c,.slice B b.length d] w λr w'=>Zp w r w' (Yn es 16 a b):=by
 have HMA:=Ld (Yo a 2 A c w.drew (ha.later (by (repeat (first | assumption | exact bR | apply bD | apply Za | refine bA ?_ _)))));have HMB:=Ld (Yo b 2 B d w.drew (hb.later (by (repeat (first | assumption | exact bR | apply bD | apply Za | refine bA ?_ _)))));rw [Kc (by omega)];obtain ⟨y,yr,b1,o1,hy,rfl,hb1,⟨-,y1,-,-⟩,-,hny,-,-,hyl⟩:=ha.head;obtain ⟨z,zr,b2,o2,hz,rfl,hb2,⟨-,z1,-,-⟩,-,hnz,-,-,hzl⟩:=hb.head;rw [hny,hnz];have hia:=Um b1 o1 a.length c hyl;have hib:=Um b2 o2 b.length d hzl;rw [if_neg (show ¬(16:Int)=15 by omega),if_pos rfl];obtain ⟨tq,htq⟩:∃tq,decide (y.n<=z.n)=tq:=⟨_,rfl⟩;rw [htq];have HS0:Hid (DbS b1 o1 b2 o2 y.n z.n w w.drew):=⟨y1,z1,rfl⟩;have HD:Hid (RowKit.Below w.heap.size w w.drew):=by show RowKit.Below _ _ _;(repeat (first | assumption | exact bR | apply bD | apply Za | refine bA ?_ _))
 have heq:(16:Int)=16:=rfl;clear ha hb hy hz hny hnz hyl hzl heq;by_cases h1:opH a=2
 . rw [if_pos h1];have H1:=Ld h1;clear h1;by_cases h2:opH b=2
   . rw [if_pos h2];have H2:=Ld h2;clear h2;go_enter Tryz.func90,Tryz.ntmps90
     go_wp2_with fail
     refine Zg (S:=DbS b1 o1 b2 o2 y.n z.n w) [(0,false),(5,false),(1,true),(2,false),(3,false),(4,false),(6,true),(7,false),(8,false),(9,false),(10,false),(11,false)] (by kernel_rfl) (by kernel_rfl) (λ_ _ _ _ _ h=>h) HS0.out (λhW'=>?_);simp only [Yl,List.filterMap_cons,List.filterMap_nil,List.getElem?_cons_zero,List.getElem?_cons_succ,Option.map_some];(repeat ((first | (refine Ze (v:=?_) (by rfl) ?_ ?_;rotate_left;(focus (intro W hW;obtain ⟨s0,s1,s2⟩:=hW;go_simp;try with_reducible rfl))) | refine Zd (by rfl) ?_);simp only [Act.put,pA,pB,pC]))
     refine Zc (λK hK=>?_);go_simp
     refine HMA.out.mono ?_;rintro r w1 ⟨hr,rfl⟩;have hr2:=hr.1 H1.out;subst hr2;refine hK _ _ HS0.out ?_;clear hK K hr;(repeat ((first | (refine Ze (v:=?_) (by rfl) ?_ ?_;rotate_left;(focus (intro W hW;obtain ⟨s0,s1,s2⟩:=hW;go_simp;try with_reducible rfl))) | refine Zd (by rfl) ?_);simp only [Act.put,pA,pB,pC]))
     refine Zc (λK hK=>?_);go_simp
     refine HMB.out.mono ?_;rintro r w1 ⟨hr,rfl⟩;have hr2:=hr.1 H2.out;subst hr2;refine hK _ _ HS0.out ?_;clear hK K hr;(repeat ((first | (refine Ze (v:=?_) (by rfl) ?_ ?_;rotate_left;(focus (intro W hW;obtain ⟨s0,s1,s2⟩:=hW;go_simp;try with_reducible rfl))) | refine Zd (by rfl) ?_);simp only [Act.put,pA,pB,pC]))
     refine Yj ?_;go_wp2_with fail
     refine (Xt tq _).mono ?_;rintro r w2 hnew;have HN:=Ld (X3.from hnew HD.out);obtain ⟨A2,c2,rfl,-⟩:=hnew;go_wp2_with fail
     go_ret
     exact Zp.ok HN.out
   . rw [if_neg h2];have H2:=Ld h2;clear h2;go_enter Tryz.func90,Tryz.ntmps90
     go_wp2_with fail
     refine Zg (S:=DbS b1 o1 b2 o2 y.n z.n w) [(0,false),(5,false),(1,true),(2,false),(3,false),(4,false),(6,true),(7,false),(8,false),(9,false),(10,false),(11,false)] (by kernel_rfl) (by kernel_rfl) (λ_ _ _ _ _ h=>h) HS0.out (λhW'=>?_);simp only [Yl,List.filterMap_cons,List.filterMap_nil,List.getElem?_cons_zero,List.getElem?_cons_succ,Option.map_some];(repeat ((first | (refine Ze (v:=?_) (by rfl) ?_ ?_;rotate_left;(focus (intro W hW;obtain ⟨s0,s1,s2⟩:=hW;go_simp;try with_reducible rfl))) | refine Zd (by rfl) ?_);simp only [Act.put,pA,pB,pC]))
     refine Zc (λK hK=>?_);go_simp
     refine HMA.out.mono ?_;rintro r w1 ⟨hr,rfl⟩;have hr2:=hr.1 H1.out;subst hr2;refine hK _ _ HS0.out ?_;clear hK K hr;(repeat ((first | (refine Ze (v:=?_) (by rfl) ?_ ?_;rotate_left;(focus (intro W hW;obtain ⟨s0,s1,s2⟩:=hW;go_simp;try with_reducible rfl))) | refine Zd (by rfl) ?_);simp only [Act.put,pA,pB,pC]))
     refine Zc (λK hK=>?_);go_simp
     refine HMB.out.mono ?_;rintro r w1 ⟨hr,rfl⟩;have hr2:=hr.2 H2.out;subst hr2;dsimp only;clear hK K hr;go_wp2_with fail
     exact ⟨rfl,Zp.no HD.out⟩
 . rw [if_neg h1];have H1:=Ld h1;clear h1;go_enter Tryz.func90,Tryz.ntmps90
   go_wp2_with fail
   refine Zg (S:=DbS b1 o1 b2 o2 y.n z.n w) [(0,false),(5,false),(1,true),(2,false),(3,false),(4,false),(6,true),(7,false),(8,false),(9,false),(10,false),(11,false)] (by kernel_rfl) (by kernel_rfl) (λ_ _ _ _ _ h=>h) HS0.out (λhW'=>?_);simp only [Yl,List.filterMap_cons,List.filterMap_nil,List.getElem?_cons_zero,List.getElem?_cons_succ,Option.map_some];(repeat ((first | (refine Ze (v:=?_) (by rfl) ?_ ?_;rotate_left;(focus (intro W hW;obtain ⟨s0,s1,s2⟩:=hW;go_simp;try with_reducible rfl))) | refine Zd (by rfl) ?_);simp only [Act.put,pA,pB,pC]))
   refine Zc (λK hK=>?_);go_simp
   refine HMA.out.mono ?_;rintro r w1 ⟨hr,rfl⟩;have hr2:=hr.2 H1.out;subst hr2;dsimp only;clear hK K hr;go_wp2_with fail
   exact ⟨rfl,Zp.no HD.out⟩
theorem Zrb (xb:Nat)(a b:List Nd)(A B:Option Addr)(c d:Nat)(w:World)(es:List En)(ha:Yr a A c w)(hb:Yr b B d w)(hai:NdI a)(hbi:NdI b)(hg:Yy w) :
 Calls Tryz.prog 90 #[.pointer (some ⟨xb,0,none⟩),.int .i64 17,.slice A a.length c,.slice B b.length d] w λr w'=>Zp w r w' (Yn es 17 a b):=by
 have HMA:=Ld (Yo a 2 A c w.drew (ha.later (by (repeat (first | assumption | exact bR | apply bD | apply Za | refine bA ?_ _)))));have HMB:=Ld (Yo b 2 B d w.drew (hb.later (by (repeat (first | assumption | exact bR | apply bD | apply Za | refine bA ?_ _)))));rw [Kc (by omega)];obtain ⟨y,yr,b1,o1,hy,rfl,hb1,⟨-,y1,-,-⟩,-,hny,-,-,hyl⟩:=ha.head;obtain ⟨z,zr,b2,o2,hz,rfl,hb2,⟨-,z1,-,-⟩,-,hnz,-,-,hzl⟩:=hb.head;rw [hny,hnz];have hia:=Um b1 o1 a.length c hyl;have hib:=Um b2 o2 b.length d hzl;have hyi:I64 y.n:=hai y (by rw [hy];simp);have hzi:I64 z.n:=hbi z (by rw [hz];simp);rw [if_neg (show ¬(17:Int)=15 by omega),if_neg (show ¬(17:Int)=16 by omega)];have HDO:=Ld (Zsn 17 y.n z.n w.drew (by omega) hyi hzi);have HQE:Hid (∀k,numR 17 y.n z.n=.bad k->k≠0):=by
  intro k hk;rw [Zzb] at hk;split at hk
  . cases hk
  . injection hk with hk;omega
 obtain ⟨q,hq⟩:∃q,numR 17 y.n z.n=q:=⟨_,rfl⟩;rw [hq] at HDO HQE ⊢;have HTD:=Ld (Ze0 (.int .i64 (rsN q)) (rsE q) w.drew hg);clear hq hyi hzi hai hbi hg;have HS0:Hid (DbS b1 o1 b2 o2 y.n z.n w w.drew):=⟨y1,z1,rfl⟩;have HD:Hid (RowKit.Below w.heap.size w w.drew):=by show RowKit.Below _ _ _;(repeat (first | assumption | exact bR | apply bD | apply Za | refine bA ?_ _))
 have heq:(17:Int)=17:=rfl;clear ha hb hy hz hny hnz hyl hzl heq;by_cases h1:opH a=2
 . rw [if_pos h1];have H1:=Ld h1;clear h1;by_cases h2:opH b=2
   . rw [if_pos h2];have H2:=Ld h2;clear h2;go_enter Tryz.func90,Tryz.ntmps90
     go_wp2_with fail
     refine Zg (S:=DbS b1 o1 b2 o2 y.n z.n w) [(0,false),(5,false),(1,true),(2,false),(3,false),(4,false),(6,true),(7,false),(8,false),(9,false),(10,false),(11,false)] (by kernel_rfl) (by kernel_rfl) (λ_ _ _ _ _ h=>h) HS0.out (λhW'=>?_);simp only [Yl,List.filterMap_cons,List.filterMap_nil,List.getElem?_cons_zero,List.getElem?_cons_succ,Option.map_some];(repeat ((first | (refine Ze (v:=?_) (by rfl) ?_ ?_;rotate_left;(focus (intro W hW;obtain ⟨s0,s1,s2⟩:=hW;go_simp;try with_reducible rfl))) | refine Zd (by rfl) ?_);simp only [Act.put,pA,pB,pC]))
     refine Zc (λK hK=>?_);go_simp
     refine HMA.out.mono ?_;rintro r w1 ⟨hr,rfl⟩;have hr2:=hr.1 H1.out;subst hr2;refine hK _ _ HS0.out ?_;clear hK K hr;(repeat ((first | (refine Ze (v:=?_) (by rfl) ?_ ?_;rotate_left;(focus (intro W hW;obtain ⟨s0,s1,s2⟩:=hW;go_simp;try with_reducible rfl))) | refine Zd (by rfl) ?_);simp only [Act.put,pA,pB,pC]))
     refine Zc (λK hK=>?_);go_simp
     refine HMB.out.mono ?_;rintro r w1 ⟨hr,rfl⟩;have hr2:=hr.1 H2.out;subst hr2;refine hK _ _ HS0.out ?_;clear hK K hr;(repeat ((first | (refine Ze (v:=?_) (by rfl) ?_ ?_;rotate_left;(focus (intro W hW;obtain ⟨s0,s1,s2⟩:=hW;go_simp;try with_reducible rfl))) | refine Zd (by rfl) ?_);simp only [Act.put,pA,pB,pC]))
     refine Yj ?_;go_wp2_with fail
     refine HDO.out.mono ?_;rintro r w2 ⟨hr,rfl⟩;unfold U2 at hr;subst hr;go_wp2_with fail
     refine HTD.out.mono ?_;rintro r w3 ⟨hr,hb3⟩;have hw3:=HD.out.trans (hb3.mono HD.out.size);clear hb3;cases q with
     | ok n=>
      have hr2:=hr.1 rfl;subst hr2;clear hr;go_wp2_with fail
      go_ret
      exact Zp.ok (Zdc (nN n) w 37 hw3)
     | bad k=>
      have hr2:=hr.2 (HQE.out k rfl);subst hr2;clear hr;go_wp2_with fail
      exact ⟨rfl,Zp.no hw3⟩
   . rw [if_neg h2];have H2:=Ld h2;clear h2;go_enter Tryz.func90,Tryz.ntmps90
     go_wp2_with fail
     refine Zg (S:=DbS b1 o1 b2 o2 y.n z.n w) [(0,false),(5,false),(1,true),(2,false),(3,false),(4,false),(6,true),(7,false),(8,false),(9,false),(10,false),(11,false)] (by kernel_rfl) (by kernel_rfl) (λ_ _ _ _ _ h=>h) HS0.out (λhW'=>?_);simp only [Yl,List.filterMap_cons,List.filterMap_nil,List.getElem?_cons_zero,List.getElem?_cons_succ,Option.map_some];(repeat ((first | (refine Ze (v:=?_) (by rfl) ?_ ?_;rotate_left;(focus (intro W hW;obtain ⟨s0,s1,s2⟩:=hW;go_simp;try with_reducible rfl))) | refine Zd (by rfl) ?_);simp only [Act.put,pA,pB,pC]))
     refine Zc (λK hK=>?_);go_simp
     refine HMA.out.mono ?_;rintro r w1 ⟨hr,rfl⟩;have hr2:=hr.1 H1.out;subst hr2;refine hK _ _ HS0.out ?_;clear hK K hr;(repeat ((first | (refine Ze (v:=?_) (by rfl) ?_ ?_;rotate_left;(focus (intro W hW;obtain ⟨s0,s1,s2⟩:=hW;go_simp;try with_reducible rfl))) | refine Zd (by rfl) ?_);simp only [Act.put,pA,pB,pC]))
     refine Zc (λK hK=>?_);go_simp
     refine HMB.out.mono ?_;rintro r w1 ⟨hr,rfl⟩;have hr2:=hr.2 H2.out;subst hr2;dsimp only;clear hK K hr;go_wp2_with fail
     exact ⟨rfl,Zp.no HD.out⟩
 . rw [if_neg h1];have H1:=Ld h1;clear h1;go_enter Tryz.func90,Tryz.ntmps90
   go_wp2_with fail
   refine Zg (S:=DbS b1 o1 b2 o2 y.n z.n w) [(0,false),(5,false),(1,true),(2,false),(3,false),(4,false),(6,true),(7,false),(8,false),(9,false),(10,false),(11,false)] (by kernel_rfl) (by kernel_rfl) (λ_ _ _ _ _ h=>h) HS0.out (λhW'=>?_);simp only [Yl,List.filterMap_cons,List.filterMap_nil,List.getElem?_cons_zero,List.getElem?_cons_succ,Option.map_some];(repeat ((first | (refine Ze (v:=?_) (by rfl) ?_ ?_;rotate_left;(focus (intro W hW;obtain ⟨s0,s1,s2⟩:=hW;go_simp;try with_reducible rfl))) | refine Zd (by rfl) ?_);simp only [Act.put,pA,pB,pC]))
   refine Zc (λK hK=>?_);go_simp
   refine HMA.out.mono ?_;rintro r w1 ⟨hr,rfl⟩;have hr2:=hr.2 H1.out;subst hr2;dsimp only;clear hK K hr;go_wp2_with fail
   exact ⟨rfl,Zp.no HD.out⟩
theorem Zq1 (xb:Nat)(a b:List Nd)(A B:Option Addr)(c d:Nat)(w:World)(es:List En)(ha:Yr a A c w)(hb:Yr b B d w)(hai:NdI a)(hbi:NdI b)(hg:Yy w) :
 Calls Tryz.prog 90 #[.pointer (some ⟨xb,0,none⟩),.int .i64 18,.slice A a.length c,.slice B b.length d] w λr w'=>Zp w r w' (Yn es 18 a b):=by
 have HMA:=Ld (Yo a 2 A c w.drew (ha.later (by (repeat (first | assumption | exact bR | apply bD | apply Za | refine bA ?_ _)))));have HMB:=Ld (Yo b 2 B d w.drew (hb.later (by (repeat (first | assumption | exact bR | apply bD | apply Za | refine bA ?_ _)))));rw [Kc (by omega)];obtain ⟨y,yr,b1,o1,hy,rfl,hb1,⟨-,y1,-,-⟩,-,hny,-,-,hyl⟩:=ha.head;obtain ⟨z,zr,b2,o2,hz,rfl,hb2,⟨-,z1,-,-⟩,-,hnz,-,-,hzl⟩:=hb.head;rw [hny,hnz];have hia:=Um b1 o1 a.length c hyl;have hib:=Um b2 o2 b.length d hzl;have hyi:I64 y.n:=hai y (by rw [hy];simp);have hzi:I64 z.n:=hbi z (by rw [hz];simp);rw [if_neg (show ¬(18:Int)=15 by omega),if_neg (show ¬(18:Int)=16 by omega)];have HDO:=Ld (Zsn 18 y.n z.n w.drew (by omega) hyi hzi);have HQE:Hid (∀k,numR 18 y.n z.n=.bad k->k≠0):=by
  intro k hk;rw [Zo6] at hk;split at hk
  . cases hk
  . injection hk with hk;omega
 obtain ⟨q,hq⟩:∃q,numR 18 y.n z.n=q:=⟨_,rfl⟩;rw [hq] at HDO HQE ⊢;have HTD:=Ld (Ze0 (.int .i64 (rsN q)) (rsE q) w.drew hg);clear hq hyi hzi hai hbi hg;have HS0:Hid (DbS b1 o1 b2 o2 y.n z.n w w.drew):=⟨y1,z1,rfl⟩;have HD:Hid (RowKit.Below w.heap.size w w.drew):=by show RowKit.Below _ _ _;(repeat (first | assumption | exact bR | apply bD | apply Za | refine bA ?_ _))
 have heq:(18:Int)=18:=rfl;clear ha hb hy hz hny hnz hyl hzl heq;by_cases h1:opH a=2
 . rw [if_pos h1];have H1:=Ld h1;clear h1;by_cases h2:opH b=2
   . rw [if_pos h2];have H2:=Ld h2;clear h2;go_enter Tryz.func90,Tryz.ntmps90
     go_wp2_with fail
     refine Zg (S:=DbS b1 o1 b2 o2 y.n z.n w) [(0,false),(5,false),(1,true),(2,false),(3,false),(4,false),(6,true),(7,false),(8,false),(9,false),(10,false),(11,false)] (by kernel_rfl) (by kernel_rfl) (λ_ _ _ _ _ h=>h) HS0.out (λhW'=>?_);simp only [Yl,List.filterMap_cons,List.filterMap_nil,List.getElem?_cons_zero,List.getElem?_cons_succ,Option.map_some];(repeat ((first | (refine Ze (v:=?_) (by rfl) ?_ ?_;rotate_left;(focus (intro W hW;obtain ⟨s0,s1,s2⟩:=hW;go_simp;try with_reducible rfl))) | refine Zd (by rfl) ?_);simp only [Act.put,pA,pB,pC]))
     refine Zc (λK hK=>?_);go_simp
     refine HMA.out.mono ?_;rintro r w1 ⟨hr,rfl⟩;have hr2:=hr.1 H1.out;subst hr2;refine hK _ _ HS0.out ?_;clear hK K hr;(repeat ((first | (refine Ze (v:=?_) (by rfl) ?_ ?_;rotate_left;(focus (intro W hW;obtain ⟨s0,s1,s2⟩:=hW;go_simp;try with_reducible rfl))) | refine Zd (by rfl) ?_);simp only [Act.put,pA,pB,pC]))
     refine Zc (λK hK=>?_);go_simp
     refine HMB.out.mono ?_;rintro r w1 ⟨hr,rfl⟩;have hr2:=hr.1 H2.out;subst hr2;refine hK _ _ HS0.out ?_;clear hK K hr;(repeat ((first | (refine Ze (v:=?_) (by rfl) ?_ ?_;rotate_left;(focus (intro W hW;obtain ⟨s0,s1,s2⟩:=hW;go_simp;try with_reducible rfl))) | refine Zd (by rfl) ?_);simp only [Act.put,pA,pB,pC]))
     refine Yj ?_;go_wp2_with fail
     refine HDO.out.mono ?_;rintro r w2 ⟨hr,rfl⟩;unfold U2 at hr;subst hr;go_wp2_with fail
     refine HTD.out.mono ?_;rintro r w3 ⟨hr,hb3⟩;have hw3:=HD.out.trans (hb3.mono HD.out.size);clear hb3;cases q with
     | ok n=>
      have hr2:=hr.1 rfl;subst hr2;clear hr;go_wp2_with fail
      go_ret
      exact Zp.ok (Zdc (nN n) w 37 hw3)
     | bad k=>
      have hr2:=hr.2 (HQE.out k rfl);subst hr2;clear hr;go_wp2_with fail
      exact ⟨rfl,Zp.no hw3⟩
   . rw [if_neg h2];have H2:=Ld h2;clear h2;go_enter Tryz.func90,Tryz.ntmps90
     go_wp2_with fail
     refine Zg (S:=DbS b1 o1 b2 o2 y.n z.n w) [(0,false),(5,false),(1,true),(2,false),(3,false),(4,false),(6,true),(7,false),(8,false),(9,false),(10,false),(11,false)] (by kernel_rfl) (by kernel_rfl) (λ_ _ _ _ _ h=>h) HS0.out (λhW'=>?_);simp only [Yl,List.filterMap_cons,List.filterMap_nil,List.getElem?_cons_zero,List.getElem?_cons_succ,Option.map_some];(repeat ((first | (refine Ze (v:=?_) (by rfl) ?_ ?_;rotate_left;(focus (intro W hW;obtain ⟨s0,s1,s2⟩:=hW;go_simp;try with_reducible rfl))) | refine Zd (by rfl) ?_);simp only [Act.put,pA,pB,pC]))
     refine Zc (λK hK=>?_);go_simp
     refine HMA.out.mono ?_;rintro r w1 ⟨hr,rfl⟩;have hr2:=hr.1 H1.out;subst hr2;refine hK _ _ HS0.out ?_;clear hK K hr;(repeat ((first | (refine Ze (v:=?_) (by rfl) ?_ ?_;rotate_left;(focus (intro W hW;obtain ⟨s0,s1,s2⟩:=hW;go_simp;try with_reducible rfl))) | refine Zd (by rfl) ?_);simp only [Act.put,pA,pB,pC]))
     refine Zc (λK hK=>?_);go_simp
     refine HMB.out.mono ?_;rintro r w1 ⟨hr,rfl⟩;have hr2:=hr.2 H2.out;subst hr2;dsimp only;clear hK K hr;go_wp2_with fail
     exact ⟨rfl,Zp.no HD.out⟩
 . rw [if_neg h1];have H1:=Ld h1;clear h1;go_enter Tryz.func90,Tryz.ntmps90
   go_wp2_with fail
   refine Zg (S:=DbS b1 o1 b2 o2 y.n z.n w) [(0,false),(5,false),(1,true),(2,false),(3,false),(4,false),(6,true),(7,false),(8,false),(9,false),(10,false),(11,false)] (by kernel_rfl) (by kernel_rfl) (λ_ _ _ _ _ h=>h) HS0.out (λhW'=>?_);simp only [Yl,List.filterMap_cons,List.filterMap_nil,List.getElem?_cons_zero,List.getElem?_cons_succ,Option.map_some];(repeat ((first | (refine Ze (v:=?_) (by rfl) ?_ ?_;rotate_left;(focus (intro W hW;obtain ⟨s0,s1,s2⟩:=hW;go_simp;try with_reducible rfl))) | refine Zd (by rfl) ?_);simp only [Act.put,pA,pB,pC]))
   refine Zc (λK hK=>?_);go_simp
   refine HMA.out.mono ?_;rintro r w1 ⟨hr,rfl⟩;have hr2:=hr.2 H1.out;subst hr2;dsimp only;clear hK K hr;go_wp2_with fail
   exact ⟨rfl,Zp.no HD.out⟩
theorem Zrz (xb:Nat)(a b:List Nd)(A B:Option Addr)(c d:Nat)(w:World)(es:List En)(ha:Yr a A c w)(hb:Yr b B d w)(hai:NdI a)(hbi:NdI b)(hg:Yy w) :
 Calls Tryz.prog 90 #[.pointer (some ⟨xb,0,none⟩),.int .i64 19,.slice A a.length c,.slice B b.length d] w λr w'=>Zp w r w' (Yn es 19 a b):=by
 have HMA:=Ld (Yo a 2 A c w.drew (ha.later (by (repeat (first | assumption | exact bR | apply bD | apply Za | refine bA ?_ _)))));have HMB:=Ld (Yo b 2 B d w.drew (hb.later (by (repeat (first | assumption | exact bR | apply bD | apply Za | refine bA ?_ _)))));rw [Kc (by omega)];obtain ⟨y,yr,b1,o1,hy,rfl,hb1,⟨-,y1,-,-⟩,-,hny,-,-,hyl⟩:=ha.head;obtain ⟨z,zr,b2,o2,hz,rfl,hb2,⟨-,z1,-,-⟩,-,hnz,-,-,hzl⟩:=hb.head;rw [hny,hnz];have hia:=Um b1 o1 a.length c hyl;have hib:=Um b2 o2 b.length d hzl;have hyi:I64 y.n:=hai y (by rw [hy];simp);have hzi:I64 z.n:=hbi z (by rw [hz];simp);rw [if_neg (show ¬(19:Int)=15 by omega),if_neg (show ¬(19:Int)=16 by omega)];have HDO:=Ld (Zsn 19 y.n z.n w.drew (by omega) hyi hzi);have HQE:Hid (∀k,numR 19 y.n z.n=.bad k->k≠0):=by
  intro k hk;rw [Zzj] at hk;split at hk
  . cases hk
  . injection hk with hk;omega
 obtain ⟨q,hq⟩:∃q,numR 19 y.n z.n=q:=⟨_,rfl⟩;rw [hq] at HDO HQE ⊢;have HTD:=Ld (Ze0 (.int .i64 (rsN q)) (rsE q) w.drew hg);clear hq hyi hzi hai hbi hg;have HS0:Hid (DbS b1 o1 b2 o2 y.n z.n w w.drew):=⟨y1,z1,rfl⟩;have HD:Hid (RowKit.Below w.heap.size w w.drew):=by show RowKit.Below _ _ _;(repeat (first | assumption | exact bR | apply bD | apply Za | refine bA ?_ _))
 have heq:(19:Int)=19:=rfl;clear ha hb hy hz hny hnz hyl hzl heq;by_cases h1:opH a=2
 . rw [if_pos h1];have H1:=Ld h1;clear h1;by_cases h2:opH b=2
   . rw [if_pos h2];have H2:=Ld h2;clear h2;go_enter Tryz.func90,Tryz.ntmps90
     go_wp2_with fail
     refine Zg (S:=DbS b1 o1 b2 o2 y.n z.n w) [(0,false),(5,false),(1,true),(2,false),(3,false),(4,false),(6,true),(7,false),(8,false),(9,false),(10,false),(11,false)] (by kernel_rfl) (by kernel_rfl) (λ_ _ _ _ _ h=>h) HS0.out (λhW'=>?_);simp only [Yl,List.filterMap_cons,List.filterMap_nil,List.getElem?_cons_zero,List.getElem?_cons_succ,Option.map_some];(repeat ((first | (refine Ze (v:=?_) (by rfl) ?_ ?_;rotate_left;(focus (intro W hW;obtain ⟨s0,s1,s2⟩:=hW;go_simp;try with_reducible rfl))) | refine Zd (by rfl) ?_);simp only [Act.put,pA,pB,pC]))
     refine Zc (λK hK=>?_);go_simp
     refine HMA.out.mono ?_;rintro r w1 ⟨hr,rfl⟩;have hr2:=hr.1 H1.out;subst hr2;refine hK _ _ HS0.out ?_;clear hK K hr;(repeat ((first | (refine Ze (v:=?_) (by rfl) ?_ ?_;rotate_left;(focus (intro W hW;obtain ⟨s0,s1,s2⟩:=hW;go_simp;try with_reducible rfl))) | refine Zd (by rfl) ?_);simp only [Act.put,pA,pB,pC]))
     refine Zc (λK hK=>?_);go_simp
     refine HMB.out.mono ?_;rintro r w1 ⟨hr,rfl⟩;have hr2:=hr.1 H2.out;subst hr2;refine hK _ _ HS0.out ?_;clear hK K hr;(repeat ((first | (refine Ze (v:=?_) (by rfl) ?_ ?_;rotate_left;(focus (intro W hW;obtain ⟨s0,s1,s2⟩:=hW;go_simp;try with_reducible rfl))) | refine Zd (by rfl) ?_);simp only [Act.put,pA,pB,pC]))
     refine Yj ?_;go_wp2_with fail
     refine HDO.out.mono ?_;rintro r w2 ⟨hr,rfl⟩;unfold U2 at hr;subst hr;go_wp2_with fail
     refine HTD.out.mono ?_;rintro r w3 ⟨hr,hb3⟩;have hw3:=HD.out.trans (hb3.mono HD.out.size);clear hb3;cases q with
     | ok n=>
      have hr2:=hr.1 rfl;subst hr2;clear hr;go_wp2_with fail
      go_ret
      exact Zp.ok (Zdc (nN n) w 37 hw3)
     | bad k=>
      have hr2:=hr.2 (HQE.out k rfl);subst hr2;clear hr;go_wp2_with fail
      exact ⟨rfl,Zp.no hw3⟩
   . rw [if_neg h2];have H2:=Ld h2;clear h2;go_enter Tryz.func90,Tryz.ntmps90
     go_wp2_with fail
     refine Zg (S:=DbS b1 o1 b2 o2 y.n z.n w) [(0,false),(5,false),(1,true),(2,false),(3,false),(4,false),(6,true),(7,false),(8,false),(9,false),(10,false),(11,false)] (by kernel_rfl) (by kernel_rfl) (λ_ _ _ _ _ h=>h) HS0.out (λhW'=>?_);simp only [Yl,List.filterMap_cons,List.filterMap_nil,List.getElem?_cons_zero,List.getElem?_cons_succ,Option.map_some];(repeat ((first | (refine Ze (v:=?_) (by rfl) ?_ ?_;rotate_left;(focus (intro W hW;obtain ⟨s0,s1,s2⟩:=hW;go_simp;try with_reducible rfl))) | refine Zd (by rfl) ?_);simp only [Act.put,pA,pB,pC]))
     refine Zc (λK hK=>?_);go_simp
     refine HMA.out.mono ?_;rintro r w1 ⟨hr,rfl⟩;have hr2:=hr.1 H1.out;subst hr2;refine hK _ _ HS0.out ?_;clear hK K hr;(repeat ((first | (refine Ze (v:=?_) (by rfl) ?_ ?_;rotate_left;(focus (intro W hW;obtain ⟨s0,s1,s2⟩:=hW;go_simp;try with_reducible rfl))) | refine Zd (by rfl) ?_);simp only [Act.put,pA,pB,pC]))
     refine Zc (λK hK=>?_);go_simp
     refine HMB.out.mono ?_;rintro r w1 ⟨hr,rfl⟩;have hr2:=hr.2 H2.out;subst hr2;dsimp only;clear hK K hr;go_wp2_with fail
     exact ⟨rfl,Zp.no HD.out⟩
 . rw [if_neg h1];have H1:=Ld h1;clear h1;go_enter Tryz.func90,Tryz.ntmps90
   go_wp2_with fail
   refine Zg (S:=DbS b1 o1 b2 o2 y.n z.n w) [(0,false),(5,false),(1,true),(2,false),(3,false),(4,false),(6,true),(7,false),(8,false),(9,false),(10,false),(11,false)] (by kernel_rfl) (by kernel_rfl) (λ_ _ _ _ _ h=>h) HS0.out (λhW'=>?_);simp only [Yl,List.filterMap_cons,List.filterMap_nil,List.getElem?_cons_zero,List.getElem?_cons_succ,Option.map_some];(repeat ((first | (refine Ze (v:=?_) (by rfl) ?_ ?_;rotate_left;(focus (intro W hW;obtain ⟨s0,s1,s2⟩:=hW;go_simp;try with_reducible rfl))) | refine Zd (by rfl) ?_);simp only [Act.put,pA,pB,pC]))
   refine Zc (λK hK=>?_);go_simp
   refine HMA.out.mono ?_;rintro r w1 ⟨hr,rfl⟩;have hr2:=hr.2 H1.out;subst hr2;dsimp only;clear hK K hr;go_wp2_with fail
   exact ⟨rfl,Zp.no HD.out⟩
theorem Zou (x:Evl)(xb i:Nat)(op:Int)(a b:List Nd)(A B:Option Addr)(c d:Nat)(w:World)(hx:V0 x xb w)(hB:Blk w xb 99 (x.cells i))(ha:Yr a A c w)(hb:Yr b B d w)(hai:NdI a)(hbi:NdI b)
 (ho:op=14\/op=15\/op=16\/op=17\/op=18\/op=19\/op=20\/op=25\/op=26\/op=27) :
 Calls Tryz.prog 90 #[.pointer (some ⟨xb,0,none⟩),.int .i64 op,.slice A a.length c,.slice B b.length d] w λr w'=>Zp w r w' (Yn x.es op a b):=by
 rcases ho with rfl | rfl | rfl | rfl | rfl | rfl | rfl | rfl | rfl | rfl
 . exact Zwd xb a b A B c d w x.es ha hb
 . exact Zvd xb a b A B c d w x.es ha hb
 . exact Zv6 xb a b A B c d w x.es ha hb
 . exact Zrb xb a b A B c d w x.es ha hb hai hbi hx.err
 . exact Zq1 xb a b A B c d w x.es ha hb hai hbi hx.err
 . exact Zrz xb a b A B c d w x.es ha hb hai hbi hx.err
 . exact Zvt xb a b A B c d w x i hx hB ha hb
 . exact Zri xb a b A B c d w x.es ha hb hx.err
 . exact Zra xb a b A B c d w x.es ha hb hx.err
 . exact Zre xb a b A B c d w x.es ha hb hx.err
theorem Zx0 {w:World}{base:Nat}{v:Value}{ss:List (List UInt8)}(h:w.ownsRow base 9 1 v ss.length (ss.map encStr))(hl:ss.length < 4611686018427387904) :
 Calls Tryz.prog 196 #[v] w λr w'=>r=.returned (.tuple #[])/\w'.ownsRow base 9 1 v ss.length ((Uz ss).map encStr)/\w.grownBy w' v.ownBlock:=by
 rcases h.2 with ⟨hv,h0⟩ | ⟨g,cap,cur,hv,hbase,hb,h1,h2,h3,h4⟩
 . subst hv;rw [h0];refine (Tryz.slices_Sort_string_none none 0 w).mono ?_;rintro r w' ⟨rfl,rfl⟩;have:ss = []:=List.eq_nil_of_length_eq_zero h0;subst this;exact ⟨rfl,by simpa [Uz] using World.ownsRow_nil _ base 9 1,World.grownBy.refl _ _⟩
 . subst hv;have hH:Holds encStr w g 0 ss.toArray:=holds_of_block hb (by simpa using h4);refine (Tryz.slices_Sort_string g 0 cap ss w hH (Array.getElem?_eq_some_iff.1 hb).1 hl).mono ?_;rintro r w' ⟨rfl,n,os,rfl⟩;exact ⟨rfl,ownsRow_sorted (by simp) hbase hb h1 h2 h3,grownBy_sorted _⟩
end Go.Proofs.YtpheiojmcafolaaGreatDoor
namespace Go.Proofs.YtpheiojmcafolaaGreatDoor
open Go.RowKit Go.Sort Go.Shelf
attribute [local go_sem] Oper.semAt_some
def Zth (w:World)(r:Ending)(w':World)(xs:List (List UInt8)):Prop:=
 ∃v,r=.returned v/\w'.ownsRow w.heap.size 9 1 v xs.length (xs.map encStr)/\RowKit.Below w.heap.size w w'
set_option maxRecDepth 100000 in
theorem Zol (w:World)(g:Nat)(lb:Array Value)(xs:List (List UInt8))(hlen:xs.length<=1000)(eg:∀args w,(callFunc g args).run Tryz.prog w=.ok (.enter g args) w)
 (hseq:SeqStopsK Fence.wide 8 Tryz.prog g lb (λb:List UInt8=>#[encStr b]) (RowKit.Below w.heap.size) (λys=>ys=xs) (λ_=>True) xs.length w) :
 Calls Tryz.prog 213 #[.slice none 0 0,.func (.func g) #[] lb] w λr w'=>Zth w r w' xs:=by
 refine (callsIn_wide (n:=9)).1 ?_;have hro:Fence.wide.round=none:=rfl;obtain ⟨i0,hi,hz0,hz1,hz2⟩:=info_parts Zf2;refine callsIn_of_wp_marks Tryz.func213 rfl trivial ?_ hro;simp only [Tryz.ntmps213,List.size_toArray,List.length_cons,List.length_nil,Nat.reduceAdd,Nat.reduceSub,Array.replicate_succ,Array.replicate_zero,List.push_toArray,List.append_toArray,List.nil_append,List.cons_append];gi_wp2
 have bO:=Boxed.new w 23 (.slice none 0 0);have hB0:RowKit.Below w.heap.size w (w.alloc (.cells #[.slice none 0 0] 23)):=(RowKit.Below.refl _ w).alloc (nL _) _;refine wpIn_rangeFunc_ownG hro (by omega) (gf:=g) (lb:=lb) rfl trivial eg hseq belowK_t (belowK_b (by simp)) hB0 (λ_=>rfl)
  (λpre W=>(∃v,Boxed W w.heap.size 23 v/\W.ownsRow w.heap.size 9 1 v pre.length (pre.map encStr)/\True)/\RowKit.Below w.heap.size w W)
  (λ_ _ _=>False)
  (OwnFrom.and (Own.from (holdsRow_own w.heap.size w.heap.size 23 9 1 (λpre:List (List UInt8)=>pre.length) (λpre=>pre.map encStr) (λpre v=>True)) _) (ownFrom_below (nL _) (by simp)))
  (λ_ _ _ _ _ hs _ _=>hs)
  ⟨⟨_,bO,World.ownsRow_nil _ _ _ _,trivial⟩,hB0⟩
  (λx=>{ tmps:=#[.slice none 0 0,.func (.func g) #[] lb,.pointer (some ⟨w.heap.size,0,none⟩),undef,.slice none 0 0,encStr x,.func (.func g) #[] lb,encStr x,undef,undef,undef,undef,undef],defers:=[] }) ?assign ?body ?done ?stop
 case assign=>
  intro l x W K hK;gi_wp2
  exact hK
 case body=>
  rintro l pre x W ⟨⟨v,hv,hrow,-⟩,hB⟩ hlt;have hc:=hv.cell;gi_wp2_with (gi_at_builtin;refine wpListIn_append_own _ rfl _ _ 23 rfl w.heap.size 9 i0 (.string ⟨#[]⟩) 1 16 Tryz.underlying23 hi hz0 hz1 hz2 rfl (by decide) _ _ _ rfl (hrow.alloc _) ⟨W.heap.size,0,none⟩ 1 1 [encStr x] rfl rfl (cell_one_new _ _ _) (by simp [encStr,Value.oneCell']) (by unfold maxLen;omega) (by omega) (by have:=hB.size;simp;omega) ?_;intro v' w1 hown' hgrow _;obtain ⟨g',cap',rfl⟩:=ownsRow_succ hown';obtain ⟨hv1,hv2,hr2,hk2,hb2⟩:=hv.appended (by decide) hrow hB.size (nL _) hown' hgrow;have hc1:=hv1.cell;have hf1:=hv1.frozen)
  exact ⟨hk2.from _,hb2,⟨_,hv2,by simpa using hr2,trivial⟩,hB.trans hb2⟩
 case done=>
  rintro D ys W hD rfl ⟨⟨v,hv,hrow,-⟩,hB⟩ hK;have hc:=hv.cell;obtain ⟨A,c,rfl,hcc⟩:=Vt hrow;gi_wp2
  refine ⟨by simp,.inl ⟨_,_,rfl,run_takeDeferred hK,?_⟩⟩;refine ⟨_,results_tmp rfl _ _ _,.slice A ys.length c,rfl,?_,hB.trans (belowK_b (w:=w) (nL _) W D _ _ (by simp at hD;omega) hK rfl rfl)⟩;exact ownsRow_putObj hrow (.deferred none) hK rfl
 case stop=>
  rintro D c pre W _ _ h _;exact h.elim
theorem Zw3 (w:World)(g:Nat)(lb:Array Value)(xs:List (List UInt8))(hlen:xs.length<=1000)(eg:∀args w,(callFunc g args).run Tryz.prog w=.ok (.enter g args) w)
 (hseq:SeqStopsK Fence.wide 8 Tryz.prog g lb (λb:List UInt8=>#[encStr b]) (RowKit.Below w.heap.size) (λys=>ys=xs) (λ_=>True) xs.length w) :
 Calls Tryz.prog 195 #[.func (.func g) #[] lb] w λr w'=>Zth w r w' xs:=by
 have H:=Ld (Zol w g lb xs hlen eg hseq);clear hseq eg;go_enter Tryz.func195,Tryz.ntmps195
 go_wp2_with fail
 refine H.out.mono ?_;rintro r w1 ⟨v,rfl,h3,h4⟩;have HS:=Ld h3;clear h3;go_wp2_with fail
 go_ret
 exact ⟨v,rfl,HS.out,h4⟩
structure Zjs (W:World)(n₀ nb:Nat)(An:Option Addr)(ss:List (List UInt8))(cn:Nat):Prop where
 nc:W.cell? ⟨nb,0,none⟩=some (.slice An ss.length cn)
 ns:Y2 W n₀ An ss
 nl:nb < n₀
theorem Zjs.later {W W':World}{n₀ nb:Nat}{An:Option Addr}{ss:List (List UInt8)}{cn:Nat}(h:Zjs W n₀ nb An ss cn)(hb:RowKit.Below n₀ W W'):Zjs W' n₀ nb An ss cn:=
 ⟨(hb.cell (p:=⟨nb,0,none⟩) h.nl).trans h.nc,h.ns.below hb,h.nl⟩
set_option maxRecDepth 100000 in
theorem Zrf (l nb n₀:Nat)(An:Option Addr)(ss:List (List UInt8))(cn:Nat)(hl:ss.length<=1000)
 (J Jx:List (List UInt8)->World->Prop)
 (hY:∀pre x W,J pre W->pre.length < ss.length->YieldAt Fence.wide 7 Tryz.prog l #[encStr x] W λr W'=>
  (r=.returned (.bool true)/\J (pre ++ [x]) W'/\RowKit.Below n₀ W W')\/(r=.returned (.bool false)/\Jx (pre ++ [x]) W'))
 (W:World) (_hJ:AbidesFrom W.heap.size J) (_hn:n₀<=W.heap.size) (hR:Zjs W n₀ nb An ss cn) (h0:J [] W) :
 CallsIn Fence.wide 8 Tryz.prog 197 #[.func (.yield l) #[] #[],.pointer (some ⟨nb,0,none⟩)] W λr W'=>(∃v,r=.returned v) /\
  ((∃ys,ys=ss/\J ys W')\/(∃pre,True/\Jx pre W')):=by
 have hro:Fence.wide.round=none:=rfl;have HR:=Ld hR;have c0:=hR.nc;clear hR;refine callsIn_of_wp Tryz.func197 rfl trivial ?_ hro;simp only [Tryz.ntmps197,List.size_toArray,List.length_cons,List.length_nil,Nat.reduceAdd,Nat.reduceSub,Array.replicate_succ,Array.replicate_zero,List.push_toArray,List.append_toArray,List.nil_append,List.cons_append];gi_wp2
 gi_loopw [7] (λkk wr=>∃k:Nat,kk=.int .i64 k/\k<=ss.length/\J (ss.take k) wr/\RowKit.Below n₀ W wr) (λkk _=>ss.length - (intOf kk).toNat)
 case atStart=>exact ⟨0,rfl,by omega,h0,RowKit.Below.refl _ _⟩
 case round=>
  obtain ⟨k,rfl,hk,hJk,hbr⟩:=hrel;have hRr:=HR.out.later hbr;have hWr:W.heap.size<=wr.heap.size:=by have:=hbr.size;omega
  clear c0;by_cases hlt:k < ss.length
  . obtain ⟨x,hx⟩:∃x,ss[k]? = some x:=⟨_,gE hlt⟩;obtain ⟨b1,o1,rfl,hb1,hcs⟩:=hRr.ns.at_ hlt;have d0:=hcs k x hx;have HST:Hid (ss.take (k+1)=ss.take k ++ [x]):=(by show _=_;rw [List.take_add_one,hx];rfl);obtain ⟨fn,tmps,assign,body,hy,hRR⟩:=hY _ x wr hJk (by rw [List.length_take];omega);clear hx hcs;gi_wp2
    refine hRR.mono ?_;rintro r W3 (⟨rfl,hJ3,hk3⟩ | ⟨rfl,hJx3⟩)
    . gi_wp2
      exact ⟨⟨k+1,by go_num,by omega,by rw [HST.out];exact hJ3,hbr.trans hk3⟩,by simp [intOf];omega⟩
    . gi_wp2
      refine bodyPost_ret (results_none rfl _ _ _) rfl ?_;exact ⟨⟨_,rfl⟩,.inr ⟨_,trivial,hJx3⟩⟩
  . have HTA:Hid (ss.take k=ss):=(by show _=_;rw [List.take_of_length_le (by omega)]);gi_wp2
    go_end0
    exact ⟨⟨_,rfl⟩,.inl ⟨_,rfl,by rw [<-HTA.out];exact hJk⟩⟩
theorem Zjz (An:Option Addr)(m cn:Nat)(w:World):Calls Tryz.prog 170 #[.slice An m cn] w λr w'=>r=.returned (.func (.func 197) #[] #[.pointer (some ⟨w.heap.size,0,none⟩)])/\w'=w.alloc (.cells #[.slice An m cn] 23):=by
 go_enter Tryz.func170,Tryz.ntmps170
 go_wp2_with fail
 go_ret
 exact ⟨rfl,rfl⟩
theorem Zlu (An:Option Addr)(ss:List (List UInt8))(cn:Nat)(hl:ss.length<=1000)(w:World)(hss:Y2 w w.heap.size An ss) :
 Calls Tryz.prog 169 #[.func (.func 197) #[] #[.pointer (some ⟨w.heap.size,0,none⟩)]] (w.alloc (.cells #[.slice An ss.length cn] 23)) λr w'=>∃A c,r=.returned (.slice A ss.length c)/\Y2 w' w'.heap.size A (Uz ss)/\RowKit.Below w.heap.size w w'/\(∀b o,A=some ⟨b,o,none⟩->w.heap.size+1<=b):=by
 obtain ⟨w2,hw2⟩:∃w2,w.alloc (.cells #[.slice An ss.length cn] 23)=w2:=⟨_,rfl⟩;have hb:RowKit.Below w.heap.size w w2:=by rw [<-hw2];(repeat (first | assumption | exact bR | apply bD | apply Za | refine bA ?_ _))
 have hz2:w2.heap.size=w.heap.size+1:=by rw [<-hw2];simp
 have hR:Zjs w2 w2.heap.size w.heap.size An ss cn:=by
  have c1:=(Blk.new w 23 #[.slice An ss.length cn]).cell 0;rw [hw2] at c1;exact ⟨c1,(hss.below hb).more hb.size,by omega⟩
 rw [hw2];have HC:=Ld (Zw3 w2 197 #[.pointer (some ⟨w.heap.size,0,none⟩)] ss hl (enters_of Tryz.func197 (by kernel_rfl) rfl)
  (λl J Jx W hW hJ hJx hY h0=>Zrf l w.heap.size w2.heap.size An ss cn hl J Jx hY W hJ hW.size (hR.later hW) h0))
 have HB:=Ld hb;have HZ2:=Ld hz2;clear hR hss hw2 hz2 hb;go_enter Tryz.func169,Tryz.ntmps169
 go_wp2_with fail
 refine HC.out.mono ?_;rintro r w3 ⟨v,rfl,hrow,hb3⟩;have HS:=Ld (Zx0 hrow (by omega));have HB3:=Ld hb3;have HOL:Hid (∀b,v.ownBlock=some b->w2.heap.size<=b):=λb h=>(Yf hrow h).1;clear hrow hb3;go_wp2_with fail
 refine HS.out.mono ?_;rintro r w4 ⟨rfl,hrow4,hg4⟩;have hw4:=HB3.out.grown hg4 HB3.out.size HOL.out;obtain ⟨A,c,hv,hs⟩:=Zjh hrow4;have hsl:(Uz ss).length=ss.length:=by simp [Uz]
 rw [hsl] at hv;have HAL:Hid (∀b o,A=some ⟨b,o,none⟩->w.heap.size+1<=b):=λb o e=>by
  have h1:=(Yf hrow4 (b:=b) (by rw [hv,e];rfl)).1;have:=HZ2.out;omega
 subst hv;have HSS:=Ld hs;clear hrow4 hg4 hs;go_wp2_with fail
 go_ret
 exact ⟨A,c,rfl,HSS.out,HB.out.trans (hw4.mono HB.out.size),HAL.out⟩
end Go.Proofs.YtpheiojmcafolaaGreatDoor
namespace Go.Proofs.YtpheiojmcafolaaGreatDoor
open Go.RowKit Go.Sort Go.Maps
abbrev SlH:=Option Addr × Nat × Nat
def slR (v:Value):Option (DataW SlH × List MemPlace):=match v with
 | .slice A n c=>some (.held (A,n,c),[])
 | _=>none
theorem Zud {v:Value}{z:DataW SlH × List MemPlace}(h:slR v=some z):∃A n c,v=.slice A n c/\z=(.held (A,n,c),[]):=by
 unfold slR at h;split at h
 . injection h with h;exact ⟨_,_,_,rfl,h.symm⟩
 . cases h
theorem Qf:Maps.Keyed Tryz.prog 9:=Maps.string_keyed Tryz.underlying9
theorem Zbq {s:ByteArray}(h:s.size<=maxLen):keyOf Tryz.prog 9 (.string s)=some (.string s.data.toList):=Go.WideMaps.keyOf_string_mk Tryz.underlying9 h
def Z56 (ss:List (List UInt8))(ms:List NsM)(k:Nat)(D:DataW SlH):Prop:=∀l:List UInt8,Maps.has D (.string l)=decide (l∈ss.take k)/\∀i y,i < k->ss[i]? = some l->ms[i]? = some y->∀z,D.atKey (.string l) z=.held (y.A,y.e.length,y.c)
def Zc8 (w:World)(mb:Nat)(ss:List (List UInt8))(ms:List NsM)(k:Nat):Prop:=∃D,w.ownsMap Tryz.prog 9 slR mb k D/\Z56 ss ms k D
theorem Zc8.kept {w w':World}{mb k:Nat}{ss:List (List UInt8)}{ms:List NsM}(h:Zc8 w mb ss ms k){row:Option Nat}(hg:w.grownBy w' row)(hne:some mb≠row):Zc8 w' mb ss ms k:=by
 obtain ⟨D,h1,h2⟩:=h;exact ⟨D,h1.kept hg hne,h2⟩
theorem Zc8.lt {w:World}{mb k:Nat}{ss:List (List UInt8)}{ms:List NsM}(h:Zc8 w mb ss ms k):mb < w.heap.size:=by
 obtain ⟨D,h1,_⟩:=h;exact h1.lt
theorem Zc8.below {w w':World}{mb k:Nat}{ss:List (List UInt8)}{ms:List NsM}(h:Zc8 w mb ss ms k)(hb:RowKit.Below w.heap.size w w'):Zc8 w' mb ss ms k:=
 h.kept (row:=none) ⟨hb.os,hb.tape,hb.output,hb.size,λk hk _=>hb.block k hk⟩ (by simp)
theorem Z2h (w:World)(ss:List (List UInt8))(ms:List NsM):Zc8 (w.alloc (.map #[] 0)) w.heap.size ss ms 0:=
 ⟨_,World.ownsMap_made _ _ _ _,λl=>⟨by simp [Maps.has],λi y hi=>by omega⟩⟩
theorem Zpe (w:World):(zeroValue 22).run Tryz.prog w=.ok (.slice none 0 0) w:=by kernel_rfl
theorem Qg {s:ByteArray}:(Lit.string s.data.toList)=.string s.toList:=by rw [ByteArray.toList_eq]
theorem Z0z {w:World}{mb k:Nat}{ss:List (List UInt8)}{ms:List NsM}(h:Zc8 w mb ss ms k){s:ByteArray}(hs:s.size<=maxLen)(hn:s.toList ∉ ss.take k) :
 (Instr.lookup 247 (.map (some mb)) (.string s) true).run Tryz.prog w=.ok (.tuple #[.slice none 0 0,.bool false]) w:=by
 obtain ⟨D,h1,h2⟩:=h;obtain ⟨v,ps,hr,hv⟩:=h1.look_ok Qf Tryz.underlying247 (Zpe w) (zd:=.held (none,0,0)) (zp:=[]) rfl (Zbq hs);rw [Qg] at hr hv;have h0:Maps.has D (.string s.toList)=false:=by rw [(h2 s.toList).1];simpa using hn
 rw [atKey_of_not_has h0] at hv;obtain ⟨A,n,c,rfl,e⟩:=Zud hv;simp only [Prod.mk.injEq,DataW.held.injEq] at e;obtain ⟨⟨rfl,rfl,rfl⟩,_⟩:=e;rw [hr,h0]
theorem Z4m {w:World}{mb k:Nat}{ss:List (List UInt8)}{ms:List NsM}(h:Zc8 w mb ss ms k){s:ByteArray}(hs:s.size<=maxLen){i:Nat}{y:NsM}(hi:i < k)(h1:ss[i]? = some s.toList)(h2:ms[i]? = some y) :
 (Instr.lookup 247 (.map (some mb)) (.string s) false).run Tryz.prog w=.ok (.slice y.A y.e.length y.c) w:=by
 obtain ⟨D,g1,g2⟩:=h;obtain ⟨v,ps,hr,hv⟩:=g1.lookup Qf Tryz.underlying247 (Zpe w) (zd:=.held (none,0,0)) (zp:=[]) rfl (Zbq hs);rw [Qg] at hv;rw [(g2 s.toList).2 i y hi h1 h2] at hv;obtain ⟨A,n,c,rfl,e⟩:=Zud hv;simp only [Prod.mk.injEq,DataW.held.injEq] at e;obtain ⟨⟨rfl,rfl,rfl⟩,_⟩:=e;exact hr
theorem Z41 {w:World}{mb k:Nat}{ss:List (List UInt8)}{ms:List NsM}(h:Zc8 w mb ss ms k)(hnd:ss.Nodup){s:ByteArray}(hs:s.size<=maxLen){y:NsM}(h1:ss[k]? = some s.toList)(h2:ms[k]? = some y)(hk:k<=1000) :
 ∃w',(Instr.mapUpdate 247 (.map (some mb)) (.string s) (.slice y.A y.e.length y.c)).run Tryz.prog w=.ok () w'/\Zc8 w' mb ss ms (k+1)/\w.grownBy w' (some mb):=by
 obtain ⟨D,g1,g2⟩:=h;obtain ⟨w',hr,h3,h4⟩:=g1.update Qf Tryz.underlying247 (by unfold maxLen;omega) (Zbq hs) (val:=.slice y.A y.e.length y.c) (d:=.held (y.A,y.e.length,y.c)) (ps:=[]) rfl;rw [Qg] at h3;refine ⟨w',hr,⟨_,h3,λl=>?_⟩,h4⟩;have hkey:WideAt.IsKeyLit (.string s.toList):=by rw [<-Qg];exact Qf.key (Zbq hs)
 by_cases e:l=s.toList
 . subst e;rw [has_put_same g1.isMap hkey];refine ⟨by rw [List.take_add_one,h1];simp,λi z hi hl hz t=>?_⟩;rw [atKey_put_same g1.isMap hkey];have:i=k:=by
    obtain ⟨a1,a2⟩:=List.getElem?_eq_some_iff.1 hl;obtain ⟨b1,b2⟩:=List.getElem?_eq_some_iff.1 h1;exact (List.getElem_inj hnd).1 (a2.trans b2.symm)
   subst this;rw [h2] at hz;injection hz with hz;subst hz;rfl
 . have hne:(Lit.string l)≠.string s.toList:=λh=>e (by injection h);rw [has_put_other hne];refine ⟨by rw [(g2 l).1,List.take_add_one,h1];simp [e],λi z hi hl hz t=>?_⟩;have hik:i < k:=by
    rcases Nat.lt_or_ge i k with h | h
    . exact h
    . have:i=k:=(by omega);subst this;rw [h1] at hl;injection hl with hl;exact absurd hl.symm e
   rw [atKey_put_other hne,(g2 l).2 i z hik hl hz t]
end Go.Proofs.YtpheiojmcafolaaGreatDoor
