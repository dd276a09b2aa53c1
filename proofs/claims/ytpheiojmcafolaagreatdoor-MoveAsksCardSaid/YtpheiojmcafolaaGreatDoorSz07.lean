/-
 THE WALKS: the reader of a value's nodes, at a record.
-/
import Derived.Test.YtpheiojmcafolaaGreatDoorSz06
set_option maxRecDepth 100000
set_option maxHeartbeats 25600000
namespace Go.Proofs.YtpheiojmcafolaaGreatDoor
open Go.RowKit
theorem Ya {w w':World}(h:Below w.drew.heap.size w.drew w'):Below w.heap.size w w':=⟨h.os,h.tape,h.output,h.size,h.block⟩
structure SR (wr:World)(rb b o:Nat)(v:Value)(a:Nat)(m:Nd)(W:World):Prop where
 q0:W.cell? ⟨rb,0,none⟩=some v
 q1:W.cell? ⟨rb,1,none⟩=some (.int .i64 a)
 m0:W.cell? ⟨b,o,none⟩=some (.int .i64 m.op)
 m1:W.cell? ⟨b,o+1,none⟩=some (.int .i64 m.n)
 m2:W.cell? ⟨b,o+2,none⟩=some (.string m.s)
 m3:W.cell? ⟨b,o+3,none⟩=some (.string m.t)
 sz:wr.heap.size<=W.heap.size
set_option maxRecDepth 100000 in
theorem Zys (e:List Nd)(f i:Nat)(x:Nd)(hx:e[i]? = some x)(hsh:Zj x=true)(hop:x.op=6)(ih:∀f',f'<=f->∀i',Zbw e f' i'):Zbw e (f+1) i:=by
 intro w rb A c hf hi hc hcm hok hblk hsl;have hrb:=hblk.lt;have k0:w.cell? ⟨rb,0,none⟩=some (.slice A e.length c):=hblk.cell 0;have k1:w.cell? ⟨rb,1,none⟩=some (.int .i64 i):=hblk.cell 1;have z1:w.frozen? ⟨rb,1,none⟩=false:=hblk.frozen 1;have hil:i < e.length:=(List.getElem?_eq_some_iff.1 hx).1;obtain ⟨b,o,rfl,hb,hcs⟩:=hsl.at_ hil;obtain ⟨d0,d1,d2,d3⟩:=hcs i x hx;obtain ⟨hxs,hxt⟩:=hok x (mG hx);have hbw:b < w.heap.size:=by omega
 have HX:=Ld hx;have HB:=Ld hblk;have HS:=Ld hsl;have HOK:=Ld hok;clear hx hblk hsl hcs hok;have HV:Hid (vGo e (f+1) .one i=vGo e f (.flds x.n.toNat ⟨#[]⟩) (i+1)):=by
  have hn:=HX.out;show _=_;simp [vGo,hn,hsh,hop]
 have hxn:0<=x.n:=by simp [Zj,hop] at hsh;omega
 obtain ⟨N,hN⟩:=Int.eq_ofNat_of_zero_le hxn;have HN:=Ld hN;have HI:=Ld ih;have p5:(x.op==5)=false:=by simp [hop]
 have p6:(x.op==6)=true:=by simp [hop]
 clear hop ih hN;rw [show x.n=(N:Int) from HN.out] at d1;have hsh2:Zj ⟨x.op,(N:Int),x.s,x.t⟩=true:=by have:=HN.out;simp only [<-this];exact hsh
 have hdl:decide (e.length<=i)=false:=by simp;omega
 suffices hw:Calls Tryz.prog 96 #[.pointer (some ⟨rb,0,none⟩)] w (Zdn e (vGo e (f+1) .one i) i rb (some ⟨b,o,none⟩) c w) from
  ⟨λj hj=>hw.mono λ_ _ p=>p.1 j hj,λhn=>hw.mono λ_ _ p=>p.2 hn⟩
 go_enter Tryz.func96,Tryz.ntmps96
 go_wp2_with (go_at_call 129;refine (J5 x.op _ x.s x.t _ hxs hxt).mono ?_;rintro r w1 ⟨rfl,hb1⟩;obtain ⟨hcc,hff⟩:=Xi hb1;have g1:rb < w1.heap.size:=Nat.lt_of_lt_of_le hrb hb1.size)
 have o1:Yk w.heap.size rb w w1:=Yk.of_below hb1 (nL _);have hz1:=hb1.size;have hilN:i+1<=e.length:=by omega
 go_loopw [8,74] (λlast kk wr=>∃(k c2 fk a:Nat) (l:ByteArray),kk=.int .i64 k/\last=.string l/\k+c2=N/\i+1<=a/\a<=e.length/\k<=a/\fk<=f/\2*(e.length - a)+1<=fk /\
  Hid (vGo e f (.flds N ⟨#[]⟩) (i+1)=vGo e fk (.flds c2 l) a)/\Hid (Blk wr rb 160 (rdr (some ⟨b,o,none⟩) e.length c a))/\Yk w.heap.size rb w wr)
  (λ_ kk _=>N - (intOf kk).toNat)
 case atStart=>
  refine ⟨0,N,f,i+1,⟨#[]⟩,rfl,rfl,by omega,by omega,by omega,by omega,by omega,by omega,rfl,?_,?_⟩
  . exact (Zcb (HB.out.below hb1 hrb)).alloc _
  . (repeat (first | assumption | exact Yk.refl _ _ _ | apply Yk.drew | apply Yk.drewN | (refine Yk.alloc ?_ (by first | exact nL _ | omega | (simp;done) | (simp;omega)) _) | (refine Yk.setCell ?_ (by first | exact .inl rfl | exact .inr (nL _) | exact .inr (by first | omega | (simp;omega))) _)))
 case round=>
  obtain ⟨k,c2,fk,a,l,rfl,rfl,hkc,hia,hal,hka,hff2,hfk,HK,HBr,hor⟩:=hrel;clear hcc hff;have q0:wr.cell? ⟨rb,0,none⟩=some (.slice (some ⟨b,o,none⟩) e.length c):=HBr.out.cell 0;have q1:wr.cell? ⟨rb,1,none⟩=some (.int .i64 a):=HBr.out.cell 1;have y1:wr.frozen? ⟨rb,1,none⟩=false:=HBr.out.frozen 1;have hrw:=HBr.out.lt;by_cases hkN:k < N
  . obtain ⟨c3,rfl⟩:∃c3,c2=c3+1:=⟨c2 - 1,by omega⟩;obtain ⟨fk2,rfl⟩:∃fk2,fk=fk2+1:=⟨fk - 1,by omega⟩;by_cases hae:e.length<=a
    . have HVN:Hid (vGo e (f+1) .one i=none):=by
       show _=_;rw [HV.out,show x.n.toNat=N from by rw [HN.out];rfl,HK.out];simp [vGo,List.getElem?_eq_none hae]
      have hd2:decide (e.length<=a)=true:=(by simp;omega);go_wp2_with fail
      go_quiet (fail)
      go_wp2_with fail
      exact ⟨rfl,Zdn.no HVN.out (hor.drewN _)⟩
    . have hal2:a < e.length:=(by omega);have hd2:decide (e.length<=a)=false:=(by simp;omega);obtain ⟨m,hm⟩:∃m,e[a]? = some m:=⟨_,gE hal2⟩;obtain ⟨hms,hmt⟩:=HOK.out m (mG hm);have hcs:∀i x,e[i]? = some x->Jj wr b (o+i*4) x:=by
       obtain ⟨b',o',h1,_,h2⟩:=(HS.out.only hor (Nat.le_of_lt hrb)).at_ hal2;injection h1 with h1;injection h1 with h1 h3;subst h1 h3;exact h2
      obtain ⟨m0,m1,m2,m3⟩:=hcs a m hm;have hbwr:b < wr.heap.size:=(by omega);have HM:=Ld hm;clear hcs hm;by_cases hm7:m.op=7
      . have hd3:(m.op != 7)=false:=(by simp [hm7]);have HM7:=Ld hm7;clear hm7;go_wp2_with fail
        refine Yg (S:=SR wr rb b (o+a*4) (.slice (some ⟨b,o,none⟩) e.length c) a m) [false,false,false,false,false,false,false,false,false,false,false,false,false,false,false,false,false,false,false,false,false,false,false,false,false,false,false,false,false,false,false,false,false,false,false,true,false,false,false,false,false,false,false,false,false,false,false,false,false,false,false,false,false] (by kernel_rfl) (by kernel_rfl) (λ_ _ _ _ _ h=>h) ⟨q0,q1,m0,m1,m2,m3,nL _⟩ (λhW=>?_);simp only [List.zip_cons_cons,List.zip_nil_left];(repeat ((first | (refine Ze (v:=?_) (by rfl) ?_ ?_;rotate_left;(focus (intro W hW;obtain ⟨s0,s1,s2,s3,s4,s5,s6⟩:=hW;go_simp;try with_reducible rfl))) | refine Zd (by rfl) ?_);simp only [Act.put,pA,pB,pC]))
        refine Zc (λK hK=>?_);go_simp
        refine (J5 m.op m.n m.s m.t _ hms hmt).mono ?_;rintro r w2 ⟨rfl,hb2'⟩;have hb2:=Ya hb2';obtain ⟨hcc2,_⟩:=Xi hb2;refine hK _ _ ⟨(hcc2 _ _ hrw).trans q0,(hcc2 _ _ hrw).trans q1,(hcc2 _ _ hbwr).trans m0,(hcc2 _ _ hbwr).trans m1,(hcc2 _ _ hbwr).trans m2,(hcc2 _ _ hbwr).trans m3,hb2.size⟩ ?_;clear hK K hcc2 hb2';have hor2:=hor.trans (Yk.of_below (g:=rb) hb2 hor.size);cases hms2:Zj m with
        | false=>
         have HVN:Hid (vGo e (f+1) .one i=none):=by
          have:=HM.out;show _=_;rw [HV.out,show x.n.toNat=N from by rw [HN.out];rfl,HK.out];simp [vGo,this,hms2]
         (repeat ((first | (refine Ze (v:=?_) (by rfl) ?_ ?_;rotate_left;(focus (intro W hW;obtain ⟨s0,s1,s2,s3,s4,s5,s6⟩:=hW;go_simp;try with_reducible rfl))) | refine Zd (by rfl) ?_);simp only [Act.put,pA,pB,pC]))
         refine Yj ?_;go_wp2_with fail
         exact ⟨rfl,Zdn.no HVN.out hor2⟩
        | true=>
         by_cases hlate:Ql l m.s=true
         . have HVN:Hid (vGo e (f+1) .one i=none):=by
            have:=HM.out;show _=_;rw [HV.out,show x.n.toNat=N from by rw [HN.out];rfl,HK.out];simp [vGo,this,hlate]
           unfold Ql at hlate;(repeat ((first | (refine Ze (v:=?_) (by rfl) ?_ ?_;rotate_left;(focus (intro W hW;obtain ⟨s0,s1,s2,s3,s4,s5,s6⟩:=hW;go_simp;try with_reducible rfl))) | refine Zd (by rfl) ?_);simp only [Act.put,pA,pB,pC]))
           refine Yj ?_;go_wp2_with fail
           exact ⟨rfl,Zdn.no HVN.out hor2⟩
         . have hlate:Ql l m.s=false:=(by simpa using hlate);have HLT:=Ld hlate;unfold Ql at hlate;(repeat ((first | (refine Ze (v:=?_) (by rfl) ?_ ?_;rotate_left;(focus (intro W hW;obtain ⟨s0,s1,s2,s3,s4,s5,s6⟩:=hW;go_simp;try with_reducible rfl))) | refine Zd (by rfl) ?_);simp only [Act.put,pA,pB,pC]))
           refine Yj ?_;have r0:w2.cell? ⟨rb,0,none⟩=some (.slice (some ⟨b,o,none⟩) e.length c):=(hb2.cell (p:=⟨rb,0,none⟩) hrw).trans q0;have r1:w2.cell? ⟨rb,1,none⟩=some (.int .i64 a):=(hb2.cell (p:=⟨rb,1,none⟩) hrw).trans q1;have t1:w2.frozen? ⟨rb,1,none⟩=false:=(hb2.frozen (p:=⟨rb,1,none⟩) hrw).trans y1;have n2:w2.cell? ⟨b,o+a*4+2,none⟩=some (.string m.s):=(hb2.cell (p:=⟨b,o+a*4+2,none⟩) hbwr).trans m2;have HBr2:Hid (Blk w2 rb 160 (rdr (some ⟨b,o,none⟩) e.length c a)):=HBr.out.below hb2 hrw;have hw2:rb < w2.heap.size:=HBr2.out.lt;clear q0 q1 m0 m1 m2 m3 y1;go_wp2_with fail
           go_quiet (fail)
           obtain ⟨w3,hw3⟩:∃w3,w3=w2.drewN nq:=⟨_,rfl⟩;rw [<-hw3];have HBr3:Hid (Blk w3 rb 160 (rdr (some ⟨b,o,none⟩) e.length c a)):=(by rw [hw3];exact HBr2.out.drewN _);have hor3:Yk w.heap.size rb w w3:=(by rw [hw3];exact hor2.drewN _);have v1:w3.cell? ⟨rb,1,none⟩=some (.int .i64 a):=HBr3.out.cell 1;have z3:w3.frozen? ⟨rb,1,none⟩=false:=HBr3.out.frozen 1;have hw4:rb < w3.heap.size:=HBr3.out.lt;clear hw3 r0 r1 t1 n2;go_wp2_with fail
           have HBr4:Hid (Blk (w3.setCell ⟨rb,1,none⟩ (.int .i64 ((a:Int)+1))) rb 160 (rdr (some ⟨b,o,none⟩) e.length c (a+1))):=Zcb HBr3.out;have hor4:Yk w.heap.size rb w (w3.setCell ⟨rb,1,none⟩ (.int .i64 ((a:Int)+1))):=hor3.setCell (.inl rfl) _;generalize w3.setCell ⟨rb,1,none⟩ (.int .i64 ((a:Int)+1))=w4 at HBr4 hor4 ⊢;have hpo:=HI.out fk2 (by omega) (a+1) w4 rb (some ⟨b,o,none⟩) c (by omega) hal2 hc hcm HOK.out HBr4.out (HS.out.only hor4 (Nat.le_of_lt hrb));have HP:=Ld hpo;clear hpo v1 z3;cases hv:vGo e fk2 .one (a+1) with
           | none=>
            have HVN:Hid (vGo e (f+1) .one i=none):=by
             have h1:=HM.out;have h2:=HLT.out;have h7:=HM7.out;show _=_;rw [HV.out,show x.n.toNat=N from by rw [HN.out];rfl,HK.out];simp [vGo,h1,h2,h7,hms2,hv]
            have HPN:=Ld (HP.out.2 hv);clear hv HP;refine HPN.out.mono ?_;rintro r w5 ⟨rfl,ho5⟩;go_wp2_with fail
            exact ⟨rfl,Zdn.no HVN.out (hor4.trans (ho5.mono hor4.size))⟩
           | some j=>
            obtain ⟨hjl,_,haj⟩:=X1 e fk2 .one (a+1) j hv;have hjl:=hjl hal2;have haj:=haj rfl;have HK2:Hid (vGo e f (.flds N ⟨#[]⟩) (i+1)=vGo e fk2 (.flds c3 m.s) j):=by
             have h1:=HM.out;have h2:=HLT.out;have h7:=HM7.out;show _=_;rw [HK.out];simp [vGo,h1,h2,h7,hms2,hv]
            have HPS:=Ld (HP.out.1 j hv);clear hv HP;refine HPS.out.mono ?_;rintro r w5 ⟨A',c',rfl,hs5,hb5,ho5⟩;go_wp2_with fail
            go_roundw
            case rel=>exact ⟨k+1,c3,fk2,j,m.s,by go_num,rfl,by omega,by omega,by omega,by omega,by omega,by omega,HK2,hb5,hor4.trans (ho5.mono hor4.size)⟩
            case measure=>simp [intOf];omega
      . have HVN:Hid (vGo e (f+1) .one i=none):=by
         have:=HM.out;show _=_;rw [HV.out,show x.n.toNat=N from by rw [HN.out];rfl,HK.out];simp [vGo,this,hm7]
        have hd3:(m.op != 7)=true:=(by simp [hm7]);go_wp2_with fail
        go_quiet (fail)
        go_wp2_with fail
        exact ⟨rfl,Zdn.no HVN.out (hor.drewN _)⟩
  . obtain rfl:c2=0:=(by omega);obtain rfl:k=N:=(by omega);have HVS:Hid (vGo e (f+1) .one i=some a):=by
     show _=_;rw [HV.out,show x.n.toNat=k from by rw [HN.out];rfl,HK.out];cases fk <;> simp [vGo]
    go_wp2_with fail
    go_quiet (fail)
    go_wp2
    go_ret
    refine ⟨λj hj=>?_,λhn=>by have:=HVS.out;rw [hn] at this;cases this⟩;obtain rfl:a=j:=(by have:=HVS.out;rw [hj] at this;injection this with this;exact this.symm);refine ⟨some ⟨b,o+i*4,none⟩,c - i,by rw [Zfj hal];rfl,?_,?_,?_⟩
    . exact ((HS.out.piece i a).only (hor.drewN _) (Nat.le_of_lt hrb))
    . exact HBr.out.drewN _
    . exact hor.drewN _
end Go.Proofs.YtpheiojmcafolaaGreatDoor
