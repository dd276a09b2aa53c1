/-
 THE WALK: the laws' freshAll.
-/
import Derived.Test.YtpheiojmcafolaaGreatDoorSz27
set_option maxRecDepth 100000
set_option maxHeartbeats 25600000
namespace Go.Proofs.YtpheiojmcafolaaGreatDoor
open Go.RowKit Go.Sort
def Zbt (m:Mv)(u:Ud):Bool:=(m.what==2) && (u.ty.toList==m.to_.toList)
def K2 (m:Mv)(e:En):Bool:=((Vn m e.at_).2==0 && (Vn m e.at_).1) && (!Zbt m e.u && e.up.all λp=>!Zbt m p)
def K0 (m:Mv)(es:List En)(q:Rq):Bool:=es.all (K2 m) && (((Vn m q.ctx).2==0 && (Vn m q.ctx).1) && !(Zbt m q.who || (Zbt m q.act || Zbt m q.what)))
theorem Ze1 {α:Type}{f:α->Bool}{ps:List α}{k:Nat}{y:α}(h:ps[k]? = some y):(ps.take (k+1)).all f=((ps.take k).all f && f y):=by
 rw [List.take_add_one,h,List.all_append];simp
theorem Ze6 {α:Type}{f:α->Bool}{ps:List α}{k:Nat}{y:α}(h:ps[k]? = some y)(hf:f y=false):ps.all f=false:=by
 rw [Bool.eq_false_iff];intro hc;rw [List.all_eq_true] at hc;rw [hc y (mG h)] at hf;cases hf
def Mq4 (m:Mv)(g b j:Nat)(v:Value)(w1 W:World):Prop:=W.cell? ⟨g,0,none⟩=some (.int .i64 m.what)/\W.cell? ⟨g,1,none⟩=some (.string m.fr)/\W.cell? ⟨g,2,none⟩=some (.string m.to_)/\W.cell? ⟨b,j,none⟩=some v/\RowKit.Below w1.heap.size w1 W
theorem Mq4.of {m:Mv}{g b j:Nat}{v:Value}{w1 W:World}(h:Blk w1 g 56 #[.int .i64 m.what,.string m.fr,.string m.to_])(hb:b < w1.heap.size)(hc:w1.cell? ⟨b,j,none⟩=some v)(hB:RowKit.Below w1.heap.size w1 W):Mq4 m g b j v w1 W:=by
 have h:=h.below hB h.lt;exact ⟨h.cell 0,h.cell 1,h.cell 2,Ui hB hb hc,hB⟩
theorem Mq4.b {m:Mv}{g b j:Nat}{v:Value}{w1 W:World}(h:Mq4 m g b j v w1 W):RowKit.Below w1.heap.size w1 W:=h.2.2.2.2
theorem Zd7 (m:Mv)(x:Aq)(w:World)(hz:MvZ m)(hI:Zdy x w)(hxl:x.hs.length<=9223372036854775807) :
 Calls Tryz.prog 28 #[.agg #[.int .i64 m.what,.string m.fr,.string m.to_],.slice x.Ea x.hs.length x.ec,.agg #[.string x.q.who.ty,.string x.q.who.id,.string x.q.act.ty,.string x.q.act.id,.string x.q.what.ty,.string x.q.what.id,.slice x.qa x.q.ctx.length x.qc]] w λr w'=>r=.returned (.bool (K0 m x.es x.q))/\RowKit.Below w.heap.size w w':=by
 obtain ⟨FA,hFA⟩:∃FA,K0 m x.es x.q=FA:=⟨_,rfl⟩;rw [hFA];have HFA:=Ld hFA;have hb0:RowKit.Below w.heap.size w ((w.alloc (.cells #[.int .i64 m.what,.string m.fr,.string m.to_] 56)).alloc (.cells #[.string x.q.who.ty,.string x.q.who.id,.string x.q.act.ty,.string x.q.act.id,.string x.q.what.ty,.string x.q.what.id,.slice x.qa x.q.ctx.length x.qc] 39)):=by (repeat (first | assumption | exact bR | apply bD | apply Za | refine bA ?_ _))
 have B0:=Ld ((Blk.new w 56 #[.int .i64 m.what,.string m.fr,.string m.to_]).alloc (.cells #[.string x.q.who.ty,.string x.q.who.id,.string x.q.act.ty,.string x.q.act.id,.string x.q.what.ty,.string x.q.what.id,.slice x.qa x.q.ctx.length x.qc] 39));have D0:Hid (Blk ((w.alloc (.cells #[.int .i64 m.what,.string m.fr,.string m.to_] 56)).alloc (.cells #[.string x.q.who.ty,.string x.q.who.id,.string x.q.act.ty,.string x.q.act.id,.string x.q.what.ty,.string x.q.what.id,.slice x.qa x.q.ctx.length x.qc] 39)) (w.heap.size+1) 39 #[.string x.q.who.ty,.string x.q.who.id,.string x.q.act.ty,.string x.q.act.id,.string x.q.what.ty,.string x.q.what.id,.slice x.qa x.q.ctx.length x.qc]):=by
  have:=Blk.new (w.alloc (.cells #[.int .i64 m.what,.string m.fr,.string m.to_] 56)) 39 #[.string x.q.who.ty,.string x.q.who.id,.string x.q.act.ty,.string x.q.act.id,.string x.q.what.ty,.string x.q.what.id,.slice x.qa x.q.ctx.length x.qc];rw [World.size_alloc] at this;exact this
 have HB:=Ld hb0;have HF:=Ld (λW e A c (h1:e.length<=c) (h2:c<=9223372036854775807) (h3:Y0 e) (h4:Ye W W.heap.size A e)=>Zh2 m e A c W hz h1 h2 h3 h4);have HI:=Ld hI;have HL:=Ld hI.ents.ens.len;clear hI hb0 hFA;go_enter Tryz.func28,Tryz.ntmps28
 go_wp2_with fail
 generalize hw1:(w.alloc _).alloc _=w1 at B0 D0 HB ⊢;clear hw1;go_loopw [7] (λkk wr=>∃k:Nat,kk=.int .i64 k/\k<=x.hs.length/\Hid ((x.es.take k).all (K2 m)=true)/\RowKit.Below w.heap.size w wr/\RowKit.Below w1.heap.size w1 wr) (λkk _=>x.hs.length - (intOf kk).toNat)
 case atStart=>exact ⟨0,rfl,by omega,Ld rfl,HB.out,RowKit.Below.refl _ _⟩
 case round=>
  obtain ⟨k,rfl,hk,HT,hbr,hbr1⟩:=hrel;have hzr:=hbr.size;have B1:=Ld (B0.out.below hbr1 B0.out.lt);have D1:=Ld (D0.out.below hbr1 D0.out.lt);by_cases hlt:k < x.hs.length
  case neg=>
   have hkk:k=x.hs.length:=(by omega);have HALL:Hid (x.es.all (K2 m)=true):=by
    show _=_;have h1:=HT.out;rwa [List.take_of_length_le (by rw [hkk,HL.out];exact nL _)] at h1
   have hI1:=HI.out.later hbr;have HFc:=Ld (HF.out wr x.q.ctx x.qa x.qc hI1.qc.1 hI1.qc.2 hI1.qk hI1.ctx);obtain ⟨F,hF⟩:∃F,(Vn m x.q.ctx).1=F:=⟨_,rfl⟩;obtain ⟨K,hK⟩:∃K,(Vn m x.q.ctx).2=K:=⟨_,rfl⟩;rw [hF,hK] at HFc;have HV:Hid (FA=((K==0 && F) && !(Zbt m x.q.who || (Zbt m x.q.act || Zbt m x.q.what)))):=by
    show _=_;rw [<-HFA.out];unfold K0;rw [HALL.out,hF,hK];rfl
   have cc:=B1.out.cell;have cl:=B1.out.lt;have dc:=D1.out.cell;have dl:=D1.out.lt;clear hF hK hI1 hkk HALL HFA;go_wp2_with fail
   refine HFc.out.mono ?_;rintro r w5 ⟨rfl,hb5⟩;have B5:=B1.out.below hb5 B1.out.lt;have D5:=D1.out.below hb5 D1.out.lt;have HW:=Ld (hbr.trans (hb5.mono hbr.size));clear cc cl dc dl hb5 HFc;have m0:w5.cell? ⟨w.heap.size,0,none⟩=some (.int .i64 m.what):=B5.cell 0;have m2:w5.cell? ⟨w.heap.size,2,none⟩=some (.string m.to_):=B5.cell 2;have ml:=B5.lt;have q0:w5.cell? ⟨w.heap.size+1,0,none⟩=some (.string x.q.who.ty):=D5.cell 0;have q2:w5.cell? ⟨w.heap.size+1,2,none⟩=some (.string x.q.act.ty):=D5.cell 2;have q4:w5.cell? ⟨w.heap.size+1,4,none⟩=some (.string x.q.what.ty):=D5.cell 4;have ql:=D5.lt;clear B5 D5;unfold Zbt at HV;cases hm2:(m.what==2) with
   | false=>
    rw [hm2] at HV;by_cases hK0:K=0
    . subst hK0;rw [Zv];have hv:FA=F:=by rw [HV.out];cases F <;> rfl
      subst hv;clear HV;cases FA <;> (
       go_wp2_with fail
       go_ret
       exact ⟨rfl,HW.out⟩)
    . have tk:(K != 0)=true:=(by simpa using hK0);have tk2:(K==0)=false:=(by simpa using hK0);have hv:FA=false:=(by rw [HV.out,tk2];rfl);subst hv;clear HV hK0;go_wp2_with fail
      go_ret
      exact ⟨rfl,HW.out⟩
   | true=>
    rw [hm2] at HV;cases h1:(x.q.who.ty.toList==m.to_.toList) with
    | true=>as_aux_lemma=>
     rw [h1] at HV;by_cases hK0:K=0
     . subst hK0;rw [Zv];cases F <;> (
        have hv:=HV.out;simp at hv;subst hv;clear HV;go_wp2_with fail
        go_ret
        exact ⟨rfl,HW.out⟩)
     . have tk:(K != 0)=true:=(by simpa using hK0);have tk2:(K==0)=false:=(by simpa using hK0);have hv:FA=false:=(by rw [HV.out,tk2];rfl);subst hv;clear HV hK0;go_wp2_with fail
       go_ret
       exact ⟨rfl,HW.out⟩
    | false=>
     cases h2:(x.q.act.ty.toList==m.to_.toList) with
     | true=>as_aux_lemma=>
      rw [h1,h2] at HV;by_cases hK0:K=0
      . subst hK0;rw [Zv];cases F <;> (
         have hv:=HV.out;simp at hv;subst hv;clear HV;go_wp2_with fail
         go_ret
         exact ⟨rfl,HW.out⟩)
      . have tk:(K != 0)=true:=(by simpa using hK0);have tk2:(K==0)=false:=(by simpa using hK0);have hv:FA=false:=(by rw [HV.out,tk2];rfl);subst hv;clear HV hK0;go_wp2_with fail
        go_ret
        exact ⟨rfl,HW.out⟩
     | false=>
      cases h3:(x.q.what.ty.toList==m.to_.toList) <;> (as_aux_lemma=>
       rw [h1,h2,h3] at HV;by_cases hK0:K=0
       . subst hK0;rw [Zv];cases F <;> (
          have hv:=HV.out;simp at hv;subst hv;clear HV;go_wp2_with fail
          go_ret
          exact ⟨rfl,HW.out⟩)
       . have tk:(K != 0)=true:=(by simpa using hK0);have tk2:(K==0)=false:=(by simpa using hK0);have hv:FA=false:=(by rw [HV.out,tk2];rfl);subst hv;clear HV hK0;go_wp2_with fail
         go_ret
         exact ⟨rfl,HW.out⟩)
  obtain ⟨h,hh⟩:∃h,x.hs[k]? = some h:=⟨_,gE hlt⟩;obtain ⟨e,he⟩:∃e,x.es[k]? = some e:=⟨_,gE (by rw [<-HL.out];exact hlt)⟩;have hem:=mG he;have hIr:=HI.out.later hbr;have hE:=hIr.ents.ens.at_ k h e hh he;obtain ⟨b,o,hA,hb,d0,d1,d2,d3⟩:=Zc7 hIr.ents.sl hh;rw [hA];have c3:wr.cell? ⟨b,o+k*4+3,none⟩=some (.slice h.aa e.at_.length h.ac):=by rw [<-hE.an];exact d3
  have HFe:=Ld (λW (hW:RowKit.Below wr.heap.size wr W)=>HF.out W e.at_ h.aa h.ac (by rw [<-hE.an];exact hE.ac.1) hE.ac.2 (hIr.ents.az e hem) ((hE.at_.below hW).more hW.size));have HS0:Hid (Mq4 m w.heap.size b (o+k*4+3) (.slice h.aa e.at_.length h.ac) wr wr.drew):=Ld (Mq4.of B1.out hb c3 ((RowKit.Below.refl _ _).drew));have i1:(0:Int)<=(k:Int):=by omega
  have i2:(k:Int) < (x.hs.length:Int):=by omega
  have HEE:=Ld hE;have HEM:=Ld he;obtain ⟨F,hF⟩:∃F,(Vn m e.at_).1=F:=⟨_,rfl⟩;obtain ⟨K,hK⟩:∃K,(Vn m e.at_).2=K:=⟨_,rfl⟩;rw [hF,hK] at HFe;have HF1:=Ld hF;have HK1:=Ld hK;clear hE hIr hem he hh hF hK d3;go_wp2_with fail
  go_cut [8,9] from 20 to 29 (λfv ev wx=>fv=.bool F/\ev=Yh K/\Hid (RowKit.Below wr.heap.size wr wx))
  case first=>
   go_region_held3 (λW=>W.cell? ⟨w.heap.size,0,none⟩=some (.int .i64 m.what)/\W.cell? ⟨w.heap.size,1,none⟩=some (.string m.fr)/\W.cell? ⟨w.heap.size,2,none⟩=some (.string m.to_)/\W.cell? ⟨b,o+k*4+3,none⟩=some (.slice h.aa e.at_.length h.ac)/\RowKit.Below wr.heap.size wr W) (first | exact HS0.out | exact Mq4.of B1.out hb c3 (by assumption) | exact Mq4.of B1.out hb c3 hbw5)
    ((go_at_call 27;refine (HFe.out _ (Mq4.b (m:=m) (g:=w.heap.size) (b:=b) (j:=o+k*4+3) (v:=.slice h.aa e.at_.length h.ac) (w1:=wr) (by assumption))).mono ?_;rintro r w5 ⟨rfl,hb5⟩;have hbw5:RowKit.Below wr.heap.size wr w5:=(Mq4.b (m:=m) (g:=w.heap.size) (b:=b) (j:=o+k*4+3) (v:=.slice h.aa e.at_.length h.ac) (w1:=wr) (by assumption)).trans (hb5.mono (Mq4.b (m:=m) (g:=w.heap.size) (b:=b) (j:=o+k*4+3) (v:=.slice h.aa e.at_.length h.ac) (w1:=wr) (by assumption)).size)))
   all_goals
    go_wp2_with fail
    go_meet
    exact ⟨rfl,rfl,hbw5⟩
  obtain ⟨rfl,rfl,HW5⟩:=hcut;obtain ⟨w5,rfl⟩:∃w5,w5=wc:=⟨_,rfl⟩;have HB5:=Ld (hbr.trans (HW5.out.mono hbr.size));have HB51:=Ld (hbr1.trans (HW5.out.mono hbr1.size));have B5:=B1.out.below HW5.out B1.out.lt;have e0:w5.cell? ⟨b,o+k*4,none⟩=some (.string e.u.ty):=Ui HW5.out hb (by rw [<-HEE.out.u];exact d0);have e2:w5.cell? ⟨b,o+k*4+2,none⟩=some (.slice h.ua e.up.length h.uc):=Ui HW5.out hb (by rw [<-HEE.out.un];exact d2);have m0:w5.cell? ⟨w.heap.size,0,none⟩=some (.int .i64 m.what):=B5.cell 0;have m2:w5.cell? ⟨w.heap.size,2,none⟩=some (.string m.to_):=B5.cell 2;have ml:=B5.lt;have HUP:=Ld ((HEE.out.up.below HW5.out).more HW5.out.size);have hb5:b < w5.heap.size:=by have:=HW5.out.size;omega
  have hul:e.up.length<=9223372036854775807:=by have:=HEE.out.uc;rw [HEE.out.un] at this;omega
  clear c3 d0 d1 d2 HS0 HFe B5 HW5 HEE hb hbr hbr1;by_cases hK0:K=0
  case neg=>
   have tk:(K != 0)=true:=(by simpa using hK0);have hv:FA=false:=by
    rw [<-HFA.out];unfold K0;rw [Ze6 HEM.out (by unfold K2;rw [HK1.out];simp [hK0])];rfl
   subst hv;clear hK0;go_wp2_with fail
   go_quiet (fail)
   go_wp2_with fail
   go_ret
   exact ⟨rfl,Za HB5.out _⟩
  subst hK0;rw [Zv];cases F with
  | false=>
   have hv:FA=false:=by
    rw [<-HFA.out];unfold K0;rw [Ze6 HEM.out (by unfold K2;rw [HF1.out];simp)];rfl
   subst hv;go_wp2_with fail
   go_quiet (fail)
   go_wp2_with fail
   go_ret
   exact ⟨rfl,Za HB5.out _⟩
  | true=>
   cases hm2:(m.what==2) with
   | false=>
    have HBU:Hid (Zbt m e.u=false):=(by show _=_;unfold Zbt;rw [hm2];rfl);go_wp2_with fail
    go_quiet (fail)
    go_wp2_with fail
    go_loopw [10] (λjj wr2=>∃j:Nat,jj=.int .i64 j/\j<=e.up.length/\Hid ((e.up.take j).all (λp=>!Zbt m p)=true)/\RowKit.Below w5.heap.size w5 wr2) (λjj _=>e.up.length - (intOf jj).toNat)
    case atStart=>exact ⟨0,rfl,by omega,Ld rfl,Za (RowKit.Below.refl _ _) _⟩
    case round=>
     obtain ⟨j,rfl,hj,HJ,hbj⟩:=hrel;have f0:=Ui hbj ml m0;have f2:=Ui hbj ml m2;have f3:=Ui hbj hb5 e2;have fl:=Nat.lt_of_lt_of_le ml hbj.size;have fb:=Nat.lt_of_lt_of_le hb5 hbj.size;by_cases hlj:j < e.up.length
     . obtain ⟨p,hp⟩:∃p,e.up[j]? = some p:=⟨_,gE hlj⟩;obtain ⟨b2,o2,hA2,hb2,p0,p1⟩:=Zc6 (HUP.out.below hbj) hp;rw [hA2] at f3;have j1:(0:Int)<=(j:Int):=(by omega);have j2:(j:Int) < (e.up.length:Int):=(by omega);have HP:=Ld hp;clear hp;have HJ2:Hid ((e.up.take (j+1)).all (λp=>!Zbt m p)=true):=(by show _=_;rw [Ze1 HP.out,HJ.out];unfold Zbt;rw [hm2];rfl);go_wp2_with fail
       go_quiet (fail)
       go_wp2_with fail
       exact ⟨⟨j+1,by go_num,by omega,HJ2,Za hbj _⟩,by simp [intOf];omega⟩
     . have hje:j=e.up.length:=(by omega);have HT2:Hid ((x.es.take (k+1)).all (K2 m)=true):=by
        show _=_;rw [Ze1 HEM.out,HT.out];have h1:=HJ.out;rw [hje,List.take_length] at h1;unfold K2;rw [HK1.out,HF1.out,HBU.out,h1];rfl
       clear HJ hje;go_wp2_with fail
       exact ⟨⟨k+1,by go_num,by omega,HT2,HB5.out.trans (hbj.mono HB5.out.size),HB51.out.trans (hbj.mono HB51.out.size)⟩,by simp [intOf];omega⟩
   | true=>
    cases hty:(e.u.ty.toList==m.to_.toList) with
    | true=>
     have hv:FA=false:=by
      rw [<-HFA.out];unfold K0;rw [Ze6 HEM.out (by unfold K2 Zbt;rw [hm2,hty];simp)];rfl
     subst hv;go_wp2_with fail
     go_quiet (fail)
     go_wp2_with fail
     go_ret
     exact ⟨rfl,Za HB5.out _⟩
    | false=>
     have HBU:Hid (Zbt m e.u=false):=(by show _=_;unfold Zbt;rw [hty];simp);go_wp2_with fail
     go_quiet (fail)
     go_wp2_with fail
     go_loopw [10] (λjj wr2=>∃j:Nat,jj=.int .i64 j/\j<=e.up.length/\Hid ((e.up.take j).all (λp=>!Zbt m p)=true)/\RowKit.Below w5.heap.size w5 wr2) (λjj _=>e.up.length - (intOf jj).toNat)
     case atStart=>exact ⟨0,rfl,by omega,Ld rfl,Za (RowKit.Below.refl _ _) _⟩
     case round=>
      obtain ⟨j,rfl,hj,HJ,hbj⟩:=hrel;have f0:=Ui hbj ml m0;have f2:=Ui hbj ml m2;have f3:=Ui hbj hb5 e2;have fl:=Nat.lt_of_lt_of_le ml hbj.size;have fb:=Nat.lt_of_lt_of_le hb5 hbj.size;by_cases hlj:j < e.up.length
      . obtain ⟨p,hp⟩:∃p,e.up[j]? = some p:=⟨_,gE hlj⟩;obtain ⟨b2,o2,hA2,hb2,p0,p1⟩:=Zc6 (HUP.out.below hbj) hp;rw [hA2] at f3;have j1:(0:Int)<=(j:Int):=(by omega);have j2:(j:Int) < (e.up.length:Int):=(by omega);have HP:=Ld hp;clear hp;cases hpy:(p.ty.toList==m.to_.toList) with
        | true=>
         have hv:FA=false:=by
          rw [<-HFA.out];unfold K0;rw [Ze6 HEM.out (by
           unfold K2;rw [Ze6 HP.out (by unfold Zbt;rw [hm2,hpy];rfl)];simp)];rfl
         subst hv;go_wp2_with fail
         go_quiet (fail)
         go_wp2_with fail
         go_ret
         exact ⟨rfl,Za (HB5.out.trans (hbj.mono HB5.out.size)) _⟩
        | false=>
         have HJ2:Hid ((e.up.take (j+1)).all (λp=>!Zbt m p)=true):=(by show _=_;rw [Ze1 HP.out,HJ.out];unfold Zbt;rw [hpy];simp);go_wp2_with fail
         go_quiet (fail)
         go_wp2_with fail
         exact ⟨⟨j+1,by go_num,by omega,HJ2,Za hbj _⟩,by simp [intOf];omega⟩
      . have hje:j=e.up.length:=(by omega);have HT2:Hid ((x.es.take (k+1)).all (K2 m)=true):=by
         show _=_;rw [Ze1 HEM.out,HT.out];have h1:=HJ.out;rw [hje,List.take_length] at h1;unfold K2;rw [HK1.out,HF1.out,HBU.out,h1];rfl
        clear HJ hje;go_wp2_with fail
        exact ⟨⟨k+1,by go_num,by omega,HT2,HB5.out.trans (hbj.mono HB5.out.size),HB51.out.trans (hbj.mono HB51.out.size)⟩,by simp [intOf];omega⟩
end Go.Proofs.YtpheiojmcafolaaGreatDoor
namespace Go.Proofs.YtpheiojmcafolaaGreatDoor
open Go.RowKit
theorem Zla:∀(k:Nat) (l:List Nd) (p:List Nd),p∈Va k l->∀x∈p,x∈l
 | 0,_,p,h=>by rw [Va] at h;cases h
 | _+1,[],p,h=>by rw [Va] at h;cases h
 | k+1,x :: l,p,h=>by
  rw [Va] at h;split at h
  . rcases List.mem_cons.1 h with rfl | h
    . exact λy hy=>List.mem_of_mem_take hy
    . exact λy hy=>List.mem_of_mem_drop (Zla k _ p h y hy)
  . cases h
theorem Zgr {α β:Type}(f:α->Option β):∀(ps:List α) (qs:List β),Zy (ps.map f)=some qs->∀q∈qs,∃p∈ps,f p=some q
 | [],qs,h,q,hq=>by rw [List.map_nil,Zy] at h;injection h with h;subst h;cases hq
 | a :: r,qs,h,q,hq=>by
  rw [List.map_cons] at h;cases ha:f a with
  | none=>rw [ha,Zy] at h;cases h
  | some b=>
   rw [ha,Zy] at h;cases hr:Zy (r.map f) with
   | none=>rw [hr] at h;cases h
   | some l=>
    rw [hr] at h;injection h with h
    subst h;rcases List.mem_cons.1 hq with rfl | hq
    . exact ⟨a,by simp,ha⟩
    . obtain ⟨p,h1,h2⟩:=Zgr f r l hr q hq;exact ⟨p,by simp [h1],h2⟩
theorem Zcu (m:Mv)(vals:Bool):∀(k:Nat) (e out:List Nd),Zt m vals k e=some out->∀x∈out,(x.op=2\/x.op=8)->x∈e
 | 0,_,_,h=>by rw [Zt] at h;cases h
 | _+1,[],_,h=>by rw [Zt] at h;cases h
 | k+1,y :: body,out,h=>by
  rw [Zt] at h;cases hp:Zy ((Va body.length body).map (Zt m vals k)) with
  | none=>rw [hp] at h;cases h
  | some ps=>
   rw [hp] at h;have key:∀q∈ps,∀x∈q,(x.op=2\/x.op=8)->x∈body:=λq hq x hx h2=>by
    obtain ⟨p,h3,h4⟩:=Zgr _ _ _ hp q hq;exact Zla _ _ p h3 x (Zcu m vals k p q h4 x hx h2)
   have hren:((ren m y).op=2\/(ren m y).op=8)->ren m y=y:=λh2=>by
    have:y.op=2\/y.op=8:=(by rw [<-(V9 m y).1];exact h2);rw [Zdi (by unfold Z7;rw [if_neg (by omega),if_neg (by omega)])]
   have flat:∀qs:List (List Nd),(∀q∈qs,q∈ps)->∀x∈ren m y :: qs.flatten,(x.op=2\/x.op=8)->x∈y :: body:=λqs hqs x hx h2=>by
    rcases List.mem_cons.1 hx with rfl | hx
    . rw [hren h2];exact List.mem_cons_self ..
    . obtain ⟨q,h3,h4⟩:=List.mem_flatten.1 hx;exact List.mem_cons_of_mem _ (key q (hqs q h3) x h4 h2)
   dsimp only at h;split at h
   . split at h
     . injection h with h;subst h
       exact flat _ λq hq=>(List.mergeSort_perm _ _).mem_iff.1 hq
     . cases h
   . split at h
     . injection h with h;subst h
       intro x hx h2;unfold V7 at hx;split at hx
       . cases hx
       . split at hx
         . cases hx
         . unfold Yb at hx;rcases List.mem_cons.1 hx with rfl | hx
           . simp at h2
           . obtain ⟨q,h3,h4⟩:=List.mem_flatten.1 hx;exact List.mem_cons_of_mem _ (key q (Xk h3) x h4 h2)
     . injection h with h;subst h
       exact flat _ λq hq=>hq
theorem Z2z {m:Mv}(hm:Zq m=0){v:List Nd}(h:GV m v):∀x∈mvV m v,x.op=2->x∈v:=λx hx h2=>Zcu m true _ v _ (h.mv hm).1 x hx (.inl h2)
theorem Zfi {es:List En}(h:Ym es=0):∀e∈es,Zw e.u=0/\Vu e=0:=λe he=>by
 unfold Ym at h;split at h
 . cases h
 . split at h
   . rename_i h1 h2;exact absurd h h2
   . rename_i h1 h2;obtain ⟨i,hi⟩:=List.getElem?_of_mem he;have h3:=Zbr (Classical.not_not.1 h2) i (by
      obtain ⟨h4,_⟩:=List.getElem?_eq_some_iff.1 hi;exact h4)
     unfold Uj at h3;rw [hi] at h3;dsimp only at h3;split at h3
     . rename_i h4;exact absurd h3 h4
     . rename_i h4;split at h3
       . cases h3
       . exact ⟨Classical.not_not.1 h4,h3⟩
theorem Znj {e:En}(h:Vu e=0):e.up.length<=6/\Ur e.up=0/\Zb e.at_=0/\opH e.at_=6:=by
 unfold Vu at h;split at h
 . cases h
 . split at h
   . rename_i h1 h2;exact absurd h h2
   . split at h
     . rename_i h1 h2 h3;exact absurd h h3
     . split at h
       . rename_i h1 h2 h3 h4;exact ⟨by omega,Classical.not_not.1 h2,Classical.not_not.1 h3,h4⟩
       . cases h
theorem Z4a {m:Mv}{es:List En}(h:Ym es=0)(hf:∀e∈es,FrL m e.at_/\FrU m e.u/\∀p∈e.up,FrU m p):EsF m es:=
 ⟨λe he=>(hf e he).2.1,λe he=>(hf e he).2.2,λe he=>by
  have:=Znj (Zfi h e he).2;exact ⟨⟨this.2.2.1,(hf e he).1⟩,this.2.2.2⟩⟩
theorem Z37 {m:Mv}{q:Rq}(h:Vr q=0)(hc:FrL m q.ctx)(h1:FrU m q.who)(h2:FrU m q.act)(h3:FrU m q.what):RqF m q:=
 ⟨h,h1,h2,h3,(Zeu h).2.2.2.1,hc⟩
end Go.Proofs.YtpheiojmcafolaaGreatDoor
