/-
 THE WALKS: (move.mover).part, at a record.
-/
import Derived.Test.YtpheiojmcafolaaGreatDoorSz11
set_option maxRecDepth 100000
set_option maxHeartbeats 25600000
namespace Go.Proofs.YtpheiojmcafolaaGreatDoor
open Go.RowKit Go.Sort
theorem Zrj {w:World}{base:Nat}{v:Value}{ms:List NsM}(h:w.ownsRow base 22 1 v ms.length (Zr NsM.cells ms))(hl:ms.length < 4611686018427387904)(hQ:∀y∈ms,y.e≠[])(hof:∀y∈ms,Vd w v.ownBlock y) :
 Calls Tryz.prog 132 #[v,.func (.func 133) #[] #[]] w λr w'=>r=.returned (.tuple #[])/\∃ds:List NsM,ds.Perm ms/\Z0s (ds.map NsM.e) /\
  w'.ownsRow base 22 1 v ms.length (Zr NsM.cells ds)/\(∀y∈ds,Vd w' v.ownBlock y)/\w.grownBy w' v.ownBlock:=by
 refine (Zhu Tryz.sortL rfl (enters_of Tryz.func133 (by kernel_rfl) rfl) Znh h hl (λy=>y.e≠[]) hQ hof (Zu1 λy:{x:NsM // x.e≠[]}=>(Xf y.1.e).toList)
  (λx y W hx hy gx gy=>Zwf x y W hx hy gx gy)).mono ?_
 rintro r w' ⟨rfl,ds,h1,h2,h3,h4,h5⟩;refine ⟨rfl,ds,h1,?_,h3,h4,h5⟩;intro i j a b ha hb hij;rw [List.getElem?_map] at ha hb;obtain ⟨a',ha',rfl⟩:=Option.map_eq_some_iff.1 ha;obtain ⟨b',hb',rfl⟩:=Option.map_eq_some_iff.1 hb;have:=h2 i j a' b' ha' hb' hij;unfold Znh at this;rw [Zbp] at this;exact this
set_option maxRecDepth 100000 in
theorem Zvu (m:Mv)(vals:Bool)(k:Nat)(e:List Nd)(x:Nd)(ps:List (List Nd))(hP:Pcs m vals k e x ps)(h6:x.op=6):Zh4 m vals (k+1) e:=by
 intro w A c hc hcm hsl;obtain ⟨i0,hi,hz0,hz1,hz2⟩:=info_parts Zjk;obtain ⟨j0,hj,hy0,hy1,hy2⟩:=info_parts Ko;obtain ⟨o,ho⟩:∃o,Zt m vals (k+1) e=o:=⟨_,rfl⟩;have HV:Hid (o=match Zy (ps.map (Zt m vals k)) with | none=>none | some qs=>if (Zi qs).Nodup then some (ren m x :: (Xp qs).flatten) else none):=by
  show _=_;rw [<-ho,hP.he,Xa m vals k x hP.ex];cases Zy (ps.map (Zt m vals k)) with
  | none=>rfl
  | some qs=>simp only;rw [if_pos h6]
 rw [ho];obtain ⟨n1,n2,n3⟩:=hP.len;have hne:e≠[]:=by rw [hP.he];simp
 obtain ⟨b,of,rfl,hb,hcs⟩:=hsl hne;obtain ⟨d0,d1,d2,d3⟩:=hcs 0 x (by rw [hP.he];rfl);rw [Nat.zero_mul,Nat.add_zero] at d0 d1 d2 d3;have hel:=hP.hl;have HP:=Ld hP;have HS:=Ld hsl;have HL1:=Ld n1;have HNE:=Ld n3;have hps:ps.length<=199:=n2;have he0:(0:Int) < (e.length:Int):=by omega
 have e6:(x.op==6)=true:=by simp [h6]
 have e5:(x.op==5)=false:=by simp [h6]
 clear h6;clear hP hsl n1 n2 n3 ho hne hcs;go_enter Tryz.func101,Tryz.ntmps101
 go_wp2_with fail
 obtain ⟨W,hW⟩:∃W,w.alloc (.cells #[.int .i64 m.what,.string m.fr,.string m.to_,.bool vals] 128)=W:=⟨_,rfl⟩;have hbW:RowKit.Below w.heap.size w W:=by rw [<-hW];(repeat (first | assumption | exact bR | apply bD | apply Za | refine bA ?_ _))
 have hWz:W.heap.size=w.heap.size+1:=by rw [<-hW];simp
 have HMB:Hid (Zfh m vals w.heap.size W):=by rw [<-hW];exact Zfh.new m vals w
 rw [hW];go_loopw [5,6] (λpv av wr=>∃(j:Nat) (ms:List NsM) (a:Nat),av=.int .i64 a/\j<=ps.length/\a<=e.length/\Hid (a=1+(ps.take j).flatten.length)/\Hid (Zy ((ps.take j).map (Zt m vals k))=some (ms.map NsM.e))/\ms.length<=199/\Hid (wr.ownsRow W.heap.size 22 1 pv ms.length (Zr NsM.cells ms))/\Hid (∀y∈ms,Vd wr pv.ownBlock y)/\RowKit.Below W.heap.size W wr) (λ_ av _=>e.length - (intOf av).toNat)
 case atStart=>exact ⟨0,[],1,rfl,by omega,by omega,rfl,rfl,by simp,World.ownsRow_nil _ _ _ _,by simp [Hid],RowKit.Below.refl _ _⟩
 case round=>
  obtain ⟨j,ms,a,rfl,hj1,ha,HA,HM,hms,HO,HN,hbr⟩:=hrel;have hzr:=hbr.size;have hwr:RowKit.Below w.heap.size w wr:=hbW.trans (hbr.mono (by omega));have hml:Hid (ms.length=j):=by
   show _=_;rcases Y5 (Zt m vals k) (ps.take j) with h | ⟨qs,h,h',_⟩
   . rw [HM.out] at h;cases h
   . rw [HM.out] at h;injection h with h
     rw [<-h] at h';rw [List.length_map,List.length_take] at h';omega
  by_cases hlt:j < ps.length
  . obtain ⟨p,hp⟩:∃p,ps[j]? = some p:=⟨_,gE hlt⟩;have hpm:=mG hp;have hpn:=List.length_pos_iff.2 (HNE.out p hpm);obtain ⟨z,hz⟩:∃z,a+p.length=z:=⟨_,rfl⟩;have hpz:Hid (piece e a z=p):=(by show _=_;rw [<-hz,HA.out,HP.out.he];exact Zc1 hp);have hsk:skP (e.drop a) 1 a=some z:=(by rw [<-hz,HA.out,HP.out.he];exact Zi6 hp (HP.out.ex p hpm));have hze:z<=e.length:=by
     have h1:=Vp hp;have h2:=Kv ps (j+1);have:=HA.out;have:=HL1.out;omega
    have hae:a < e.length:=(by omega);have HSK:=Ld (Zco e (some ⟨b,of,none⟩) c a z wr hel ((HS.out.below hwr).more hwr.size) HP.out.par hsk ha);have HZ:=Ld hz;have HPP:=Ld hp;have haz:a < z:=(by omega);have HC:=Ld (show ∀W',RowKit.Below w.heap.size w W'->Calls Tryz.prog 101 #[.agg #[.int .i64 m.what,.string m.fr,.string m.to_,.bool vals],.slice (some ⟨b,of+a*4,none⟩) (z - a) (c - a)] W' (X6 W' (Zt m vals k p)) from λW' hW'=>by
     have h:=HP.out.ih p hpm W' (some ⟨b,of+a*4,none⟩) (c - a) (by omega) (by omega) (by have:=((HS.out.below hW').more hW'.size).piece a z;rw [hpz.out] at this;exact this);have hl:p.length=z - a:=(by omega);rw [hl] at h;exact h)
    clear hsk hz hp;have q:∀(W:World),(Instr.slice 22 (.slice (some ⟨b,of,none⟩) e.length c) (some (.int .i64 (a:Int))) (some (.int .i64 (z:Int))) none).run Tryz.prog W=.ok (.slice (some ⟨b,of+a*4,none⟩) (z - a) (c - a)) W:=by
     intro W;go_simp
     rw [if_pos (show z<=c by omega),if_pos (show a<=z by omega),if_neg (show ¬c=a by omega)]
    go_wp2_with fail
    refine HSK.out.mono ?_;rintro r w1 ⟨rfl,hb1⟩;obtain ⟨hcc1,hff1⟩:=Xi hb1;have hw1:RowKit.Below W.heap.size W w1:=hbr.trans (hb1.mono hzr);go_wp2_with fail
    have HM1:=Ld (HMB.out.later hw1 (by omega));clear hcc1 hff1;refine Yg (S:=Zfh m vals w.heap.size) [false,false,false,false,false,false,true,true,true,false] (by kernel_rfl) (by kernel_rfl) (λ_ _ _ _ _ h=>h) ⟨HM1.out.c0,HM1.out.c1,HM1.out.c2,HM1.out.c3⟩ (λhW'=>?_);simp only [List.zip_cons_cons,List.zip_nil_left];(repeat ((first | (refine Ze (v:=?_) (by rfl) ?_ ?_;rotate_left;(focus (intro W hW;obtain ⟨s0,s1,s2,s3⟩:=hW;go_simp;try with_reducible rfl))) | refine Zd (by rfl) ?_);simp only [Act.put,pA,pB,pC]))
    refine Zc (λK hK=>?_);go_simp
    refine (HC.out w1.drew (hwr.trans (hb1.mono hwr.size)).drew).mono ?_;rintro r w2 hpost;cases hq:Zt m vals k p with
    | none=>
     obtain ⟨rfl,hb2⟩:=hpost.2 hq;clear hpost;have HQ:=Ld hq;clear hq;have HO:Hid (o=none):=(by show _=_;rw [HV.out,Kx _ ps p (mG HPP.out) HQ.out]);dsimp only;clear hK K;go_wp2_with fail
     rw [HO.out];exact ⟨rfl,X6.twice ((hwr.trans (hb1.mono hwr.size)).trans ((Ya hb2).mono (by have:=hb1.size;have:=hwr.size;omega)))⟩
    | some q1=>
     obtain ⟨A2,c2,rfl,hc2,hcm2,hs2,hb2',hn2⟩:=hpost.1 q1 hq;clear hpost;have HQ:=Ld hq;clear hq;have hb2:=Ya hb2';have hv1:=hb1.size;have hv2:=hb2.size;have hw2:RowKit.Below W.heap.size W w2:=hw1.trans (hb2.mono hw1.size);refine hK _ _ (HMB.out.later hw2 (by omega)) ?_;clear hK K;have hw3:RowKit.Below W.heap.size W (w2.alloc (.cells #[.slice A2 q1.length c2] 22)):=hw2.alloc (by omega) _;refine Zc (λK hK=>?_);go_simp
     refine hK _ _ (HMB.out.later hw3 (by omega)) ?_;clear hK K;have HO2:=Ld (Zu (Zu (Zu HO.out hb1) hb2) (by (repeat (first | assumption | exact bR | apply bD | apply Za | refine bA ?_ _)):RowKit.Below w2.heap.size w2 (w2.alloc (.cells #[.slice A2 q1.length c2] 22))));refine Ug (by rfl) (.tmp 19) (.tmp 26) 152 rfl W.heap.size 22 i0 _ 1 24 Tryz.underlying152 hi hz0 hz1 hz2 rfl (by omega) u5 ms.length (Zr NsM.cells ms) rfl HO2.out ⟨w2.heap.size,0,none⟩ 1 1 [.slice A2 q1.length c2] rfl rfl (cell_one_new _ _ _) (by simp [Value.oneCell']) (by unfold maxLen;omega) (by omega) (by simp;omega) ?_;intro v6 w6 hown6 hgrow6 _ hloc6;have hb6:RowKit.Below W.heap.size W w6:=hw3.grown hgrow6 (by simp;omega) (λq hq=>(Yf HO.out hq).1);refine ⟨HMB.out.later hb6 (by omega),?_⟩;(repeat ((first | (refine Ze (v:=?_) (by rfl) ?_ ?_;rotate_left;(focus (intro W hW;obtain ⟨s0,s1,s2,s3⟩:=hW;go_simp;try with_reducible rfl))) | refine Zd (by rfl) ?_);simp only [Act.put,pA,pB,pC]))
     refine Yj ?_;have hq1:=HP.out.out p (mG HPP.out) q1 HQ.out;have HN2:Hid (Vd w2 u5.ownBlock ⟨A2,c2,q1⟩):=Yq.fresh (B:=w1.heap.size) ⟨hs2,hc2,hcm2⟩ hn2 (λb hb=>Nat.lt_of_lt_of_le (Yf HO.out hb).2 hv1);have HN6:=Ld (Zmy (x:=⟨A2,c2,q1⟩) (wr:=w2) (by (repeat (first | assumption | exact bR | apply bD | apply Za | refine bA ?_ _))) (λy hy=>((HN.out y hy).later hb1).later hb2) (HN2.out.later (by (repeat (first | assumption | exact bR | apply bD | apply Za | refine bA ?_ _)))) hgrow6 hloc6);have HM6:Hid (Zy ((ps.take (j+1)).map (Zt m vals k))=some ((ms ++ [(⟨A2,c2,q1⟩:NsM)]).map NsM.e)):=by
      show _=_;rw [Kw _ ps _ j p q1 HM.out HPP.out HQ.out,List.map_append];rfl
     have HA6:Hid (z=1+(ps.take (j+1)).flatten.length):=(by show _=_;rw [Vp HPP.out,<-HZ.out,HA.out];omega);have hm6:(ms ++ [(⟨A2,c2,q1⟩:NsM)]).length<=199:=(by rw [List.length_append,List.length_singleton];have:=hml.out;omega);go_wp2_with fail
     exact ⟨⟨j+1,ms ++ [⟨A2,c2,q1⟩],z,by go_num,by omega,hze,HA6,HM6,hm6,by rw [List.length_append,Q1];exact hown6,HN6,hb6⟩,by simp [intOf];omega⟩
  . have hjp:j=ps.length:=(by omega);have HM2:Hid (Zy (ps.map (Zt m vals k))=some (ms.map NsM.e)):=by
     have:=HM.out;rw [hjp,List.take_of_length_le (nL _)] at this;exact this
    have hae:¬a < e.length:=by
     have h1:=HA.out;have h2:=HL1.out;rw [hjp,List.take_of_length_le (nL _)] at h1;omega
    have HPE:Hid (∀y∈ms,y.e≠[]):=by
     intro y hy;rcases Y5 (Zt m vals k) ps with h | ⟨qs,h,_,h'⟩
     . rw [HM2.out] at h;cases h
     . rw [HM2.out] at h;injection h with h
       obtain ⟨p,hp,hpq⟩:=h' y.e (by rw [<-h];exact List.mem_map_of_mem hy);obtain ⟨⟨b,hb⟩,_⟩:=HP.out.out p hp _ hpq;obtain ⟨z,r,e,_⟩:=Jb hb;rw [e];simp
    have hcl:(Xl ms).length<=199:=by
     have h1:=Ua _ _ _ HM2.out (λp hp q hq=>(HP.out.out p hp q hq).2);rw [<-Uv rfl] at h1;have:=HL1.out;omega
    obtain ⟨-,Ap,cp,hv,hcp,hcm',hsp⟩:=Y1 Zbv HO.out;subst hv;have hbr':b < wr.heap.size:=(by have:=hwr.size;omega);have HD:Hid (Jj wr b of x):=⟨(hwr.cell (p:=⟨b,of,none⟩) hb).trans d0,(hwr.cell (p:=⟨b,of+1,none⟩) hb).trans d1,(hwr.cell (p:=⟨b,of+2,none⟩) hb).trans d2,(hwr.cell (p:=⟨b,of+3,none⟩) hb).trans d3⟩;have f0:=HD.out.c0;have HSRT:=Ld (Zrj HO.out (by omega) HPE.out HN.out);have hbg:∀b',(Value.slice Ap ms.length cp).ownBlock=some b'->W.heap.size<=b':=λb' h=>(Yf HO.out h).1;have HBG:=Ld hbg;clear d0 d1 d2 d3 hsp HO HN HM hml HA hbg;go_wp2_with fail
    refine HSRT.out.mono ?_;rintro r w5 ⟨rfl,ds,hp5,hs5,ho5,hn5,hg5⟩;obtain ⟨-,Ap2,cp2,hv2,hcp2,hcm2',hsp2⟩:=Y1 Zbv ho5;injection hv2 with hva hvb hvc
    subst hva hvc;have hl5:ds.length=ms.length:=hp5.length_eq;have hb5:RowKit.Below W.heap.size W w5:=hbr.grown hg5 hzr (λq hq=>HBG.out q hq);have hw5:RowKit.Below w.heap.size w w5:=hbW.trans (hb5.mono (by omega));have HN5:=Ld hn5;have HS5:Hid (X8 w5 Ap ds):=⟨by rw [hl5] at *;exact hsp2,λy hy=>(hn5 y hy).good⟩;have HR5:=Ld hs5;have HP5:=Ld hp5;have HQ5:Hid (∀y∈ds,y.e≠[]):=λy hy=>HPE.out y (hp5.mem_iff.1 hy);have HL5:=Ld hl5;have HD5:Hid (Jj w5 b of x):=HD.out.keep (B:=w.heap.size) hb (λp hp=>(hw5.cell hp).trans (hwr.cell hp).symm);have HM5:=Ld (HMB.out.later hb5 (by omega));have hz5:wr.heap.size<=w5.heap.size:=hg5.size;have hbw5:b < w5.heap.size:=(by omega);have hlw5:w.heap.size < w5.heap.size:=(by have:=hb5.size;omega);clear hsp2 hn5 hs5 hp5 ho5 hg5 HD HSRT f0 hbr' hbr hwr hae hl5;obtain ⟨wo,hwo⟩:∃wo:World,wo=wr:=⟨_,rfl⟩;clear hwo;go_wp2_with fail
    go_loopw [39] (λkk wr=>∃i:Nat,kk=.int .i64 i/\i<=ms.length/\Hid (∀(t:Nat) (y z:NsM),t+1 < i->ds[t]? = some y->ds[t+1]? = some z->(Xf z.e).toList≠(Xf y.e).toList)/\RowKit.Below w5.heap.size w5 wr) (λkk _=>ms.length - (intOf kk).toNat)
    case atStart=>exact ⟨0,rfl,by omega,λt y z h=>by omega,RowKit.Below.refl _ _⟩
    case round=>
     obtain ⟨i,rfl,hi',HI,hbi⟩:=hrel;have hzi:=hbi.size;by_cases hlt:i < ms.length
     . cases i with
       | zero=>
        go_wp2_with fail
        go_quiet (fail)
        go_wp2_with fail
        exact ⟨⟨1,by go_num,by omega,λt y z h=>by omega,Za hbi _⟩,by simp [intOf];omega⟩
       | succ t=>
        obtain ⟨⟨A1,c1,e1⟩,hx1⟩:∃y,ds[t]? = some y:=⟨_,gE (by rw [HL5.out];omega)⟩;obtain ⟨⟨A2,c2,e2⟩,hx2⟩:∃y,ds[t+1]? = some y:=⟨_,gE (by rw [HL5.out];omega)⟩;have hN:=HS5.out.later hbi;obtain ⟨b1,o1,hA1,hb1,hc1⟩:=V4 hN.sl hx1;obtain ⟨b2,o2,hA2,hb2,hc2⟩:=V4 hN.sl hx2;rw [hA1] at hA2;injection hA2 with hA2
        injection hA2 with hA2 hA3
        subst hA2 hA3;obtain ⟨y1,r1,he1⟩:=List.exists_cons_of_ne_nil (HQ5.out _ (mG hx1));obtain ⟨y2,r2,he2⟩:=List.exists_cons_of_ne_nil (HQ5.out _ (mG hx2));simp only at he1 he2;subst he1 he2;obtain ⟨g1,p1,hg1,hgb1,hgc1⟩:=(hN.good _ (mG hx1)).sl (by simp);obtain ⟨g2,p2,hg2,hgb2,hgc2⟩:=(hN.good _ (mG hx2)).sl (by simp);simp only at hg1 hg2;subst hg1 hg2;have a1:=(hgc1 0 y1 rfl).c2;have a2:=(hgc2 0 y2 rfl).c2;rw [Nat.zero_mul,Nat.add_zero] at a1 a2;simp only [List.length_cons] at hc1 hc2;have HX1:=Ld hx1;have HX2:=Ld hx2;subst hA1;clear hgc1 hgc2 hN hx1 hx2;have i1:(0:Int) < ((r1.length+1:Nat):Int):=(by omega);have i2:(0:Int) < ((r2.length+1:Nat):Int):=(by omega);generalize r1.length+1=n1 at *;generalize r2.length+1=n2 at *;have lt1:t < ms.length:=(by omega);have j1:IntKind.i64.wrap ((t:Int)+1 - 1)=(t:Int):=(by rw [show (t:Int)+1 - 1=t from by omega,IntKind.wrap_i64];omega);have ld:decide (0 < t+1)=true:=(by simp);by_cases hqq:y2.s.toList=y1.s.toList
        . have tq:(y2.s.toList==y1.s.toList)=true:=(by simp [hqq]);have HOT:Hid (o=none):=by
           show _=_;rw [HV.out,HM2.out];simp only;rw [if_neg (Zqq (HP5.out.map NsM.e) (j:=t) (a:=y1 :: r1) (b:=y2 :: r2) (by rw [List.getElem?_map,HX1.out];rfl) (by rw [List.getElem?_map,HX2.out];rfl) (by rw [Qb,Qb];exact hqq))]
          clear hqq;go_wp2_with fail
          go_quiet (fail)
          go_wp2_with fail
          rw [HOT.out];exact ⟨rfl,X6.twice (Za (hw5.trans (hbi.mono hw5.size)) _)⟩
        . have tq:(y2.s.toList==y1.s.toList)=false:=(by simp [hqq]);have HI2:Hid (∀(t':Nat) (y z:NsM),t'+1 < t+1+1->ds[t']? = some y->ds[t'+1]? = some z->(Xf z.e).toList≠(Xf y.e).toList):=by
           intro t' y z h1 h2 h3;by_cases ht:t'=t
           . subst ht;have e1:=HX1.out;have e2:=HX2.out;rw [h2] at e1;rw [h3] at e2;injection e1 with e1
             injection e2 with e2
             subst e1 e2;exact hqq
           . exact HI.out t' y z (by omega) h2 h3
          clear hqq;go_wp2_with fail
          go_quiet (fail)
          go_wp2_with fail
          exact ⟨⟨t+1+1,by go_num,by omega,HI2,Za hbi _⟩,by simp [intOf];omega⟩
     . have hin:i=ms.length:=(by omega);have HSO:=Ld (Zwl (HP5.out.map NsM.e) HR5.out (by
        intro j a b ha hb;rw [List.getElem?_map] at ha hb;obtain ⟨a',ha',rfl⟩:=Option.map_eq_some_iff.1 ha;obtain ⟨b',hb',rfl⟩:=Option.map_eq_some_iff.1 hb;exact HI.out j a' b' (by have:=(List.getElem?_eq_some_iff.1 hb').1;have:=HL5.out;omega) ha' hb'))
       have HOV:Hid (o=some (ren m x :: Xl ds)):=by
        show _=_;rw [HV.out,HM2.out];simp only;rw [if_pos HSO.out.1,<-HSO.out.2,Uv rfl]
       have hcl5:(Xl ds).length<=199:=by
        have e1:(Xl ds).length=(Xl ms).length:=by
         rw [Uv (ms:=ds) rfl,Uv (ms:=ms) rfl];exact (HP5.out.map NsM.e).flatten.length_eq
        omega
       have hmd:ds.length=ms.length:=HL5.out;have hmd2:ds.length<=199:=(by omega);rw [<-hmd];have hwr:RowKit.Below w.heap.size w wr:=hw5.trans (hbi.mono hw5.size);have hbr':b < wr.heap.size:=(by omega);have hlw:w.heap.size < wr.heap.size:=(by omega);have HD:Hid (Jj wr b of x):=HD5.out.keep (B:=w5.heap.size) hbw5 (λp hp=>hbi.cell hp);have f0:=HD.out.c0;have HMr:=Ld (HM5.out.later hbi hlw5);have HNS:Hid (X8 wr Ap ds):=HS5.out.later hbi;have HNM:=Ld (λW=>Zhs m x W);have qi:∀W,(Instr.indexAt 22 (.slice (some ⟨b,of,none⟩) e.length c) (.int .i64 0)).run Tryz.prog W=.ok (.pointer (some ⟨b,of,none⟩)) W:=by
        intro W;go_simp
        intro h;rw [h] at he0;simp at he0
       have hlt2:¬i < ds.length:=(by omega);clear HSO HI HV hmd hin;go_wp2_with fail
       refine Yg (S:=λW'=>Zfh m vals w.heap.size W'/\Jj W' b of x) [false,false,false,false,false,true,true,false] (by kernel_rfl) (by kernel_rfl) (λ_ _ _ _ _ h=>h) ⟨⟨HMr.out.c0,HMr.out.c1,HMr.out.c2,HMr.out.c3⟩,⟨HD.out.c0,HD.out.c1,HD.out.c2,HD.out.c3⟩⟩ (λhW'=>?_);simp only [List.zip_cons_cons,List.zip_nil_left];(repeat ((first | (refine Ze (v:=?_) (by rfl) ?_ ?_;rotate_left;(focus (intro W hW;obtain ⟨⟨s0,s1,s2,s3⟩,⟨s4,s5,s6,s7⟩⟩:=hW;go_simp;try with_reducible rfl))) | refine Zd (by rfl) ?_);simp only [Act.put,pA,pB,pC]))
       refine Zc (λK hK=>?_);go_simp
       refine (HNM.out _).mono ?_;rintro r w2 ⟨rfl,hb2'⟩;have hb2:=Ya hb2';refine hK _ _ ⟨HMr.out.later hb2 hlw,⟨(hb2.cell (p:=⟨b,of,none⟩) hbr').trans HD.out.c0,(hb2.cell (p:=⟨b,of+1,none⟩) hbr').trans HD.out.c1,(hb2.cell (p:=⟨b,of+2,none⟩) hbr').trans HD.out.c2,(hb2.cell (p:=⟨b,of+3,none⟩) hbr').trans HD.out.c3⟩⟩ ?_;clear hK K;have hb3:RowKit.Below w.heap.size w w2:=hwr.trans (hb2.mono hwr.size);have hz3:=hb3.size;refine Zc (λK hK=>?_);go_simp
       refine hK _ _ ⟨(HMr.out.later hb2 hlw).later (RowKit.Below.alloc (RowKit.Below.refl w2.heap.size w2) (nL _) _) (by have:=hb2.size;omega),HD.out.keep (B:=wr.heap.size) hbr' (λp hp=>((RowKit.Below.alloc (RowKit.Below.refl w2.heap.size w2) (nL _) _).cell (by have:=hb2.size;omega)).trans (hb2.cell hp))⟩ ?_;clear hK K;(repeat ((first | (refine Ze (v:=?_) (by rfl) ?_ ?_;rotate_left;(focus (intro W hW;obtain ⟨⟨s0,s1,s2,s3⟩,⟨s4,s5,s6,s7⟩⟩:=hW;go_simp;try with_reducible rfl))) | refine Zd (by rfl) ?_);simp only [Act.put,pA,pB,pC]))
       refine Yj ?_;have HOL:=Ld (World.ownsRow_lit (base:=w.heap.size) (e:=37) (size:=4) w2 #[.int .i64 (ren m x).op,.int .i64 (ren m x).n,.string (ren m x).s,.string (ren m x).t] 1 (by omega) (by decide) (by simp));have hb4:RowKit.Below w2.heap.size w2 (w2.alloc (.cells #[.int .i64 (ren m x).op,.int .i64 (ren m x).n,.string (ren m x).s,.string (ren m x).t] 37)):=(by (repeat (first | assumption | exact bR | apply bD | apply Za | refine bA ?_ _)));have HN4:=Ld ((HNS.out.later hb2).later hb4);have hb5:RowKit.Below w.heap.size w (w2.alloc (.cells #[.int .i64 (ren m x).op,.int .i64 (ren m x).n,.string (ren m x).s,.string (ren m x).t] 37)):=hb3.trans (hb4.mono hz3);generalize w2.alloc (.cells #[.int .i64 (ren m x).op,.int .i64 (ren m x).n,.string (ren m x).s,.string (ren m x).t] 37)=w3 at *;clear hb4;go_wp2_with fail
       refine (Za0 ds Ap cp w3 HN4.out HQ5.out (by omega) (by omega)).mono ?_;rintro r w4 ⟨A4,c4,rfl,h41,h42,h43,h44,h45⟩;have hb6:RowKit.Below w.heap.size w w4:=hb5.trans (h44.mono hb5.size);have HO4:=Ld (Zu HOL.out h44);by_cases hcn:Xl ds = []
       . have HCN:=Ld hcn;rw [hcn] at h41 h43;try rw [hcn]
         clear hcn h43 h44 h45 h41;cases A4 with
         | none=>
          go_wp2_with (at_builtin;refine Ut rfl (.tmp 88) (.tmp 90) 22 rfl w.heap.size 37 j0 4 Tryz.underlying22 hj _ 1 _ rfl HO4.out c4 rfl ?_)
          go_ret
          rw [HOV.out,HCN.out];exact X6.own (n:=1) HO4.out hb6
         | some ad=>
          go_wp2_with (at_builtin;refine wpList_append_own _ rfl (.tmp 88) (.tmp 90) 22 rfl w.heap.size 37 j0 _ 4 48 Tryz.underlying22 hj hy0 hy1 hy2 rfl (by omega) _ 1 _ rfl HO4.out ad 0 c4 [] rfl rfl (by simp) (by simp) (by unfold maxLen;omega) (by omega) (by have:=hb6.size;omega) ?_;intro v7 w7 hown7 hgrow7 _)
          have hb7:RowKit.Below w.heap.size w w7:=hb6.grown hgrow7 hb6.size (λq hq=>(HO4.out.lt q hq).1);go_wp2_with fail
          have HO7:=Ld hown7;clear hown7;go_ret
          rw [HOV.out,HCN.out];exact X6.own (n:=1) (by have:=HO7.out;rw [List.append_nil] at this;exact this) hb7
       . obtain ⟨b4,o4,rfl,hb4,hs4⟩:=h43 hcn;have HS4:=Ld (λj u hu=>Ye.flat h43 j u hu);clear h43 h44 h45 hs4 hcn;go_wp2_with (at_builtin;refine wpList_append_own _ rfl (.tmp 88) (.tmp 90) 22 rfl w.heap.size 37 j0 _ 4 48 Tryz.underlying22 hj hy0 hy1 hy2 rfl (by omega) _ 1 _ rfl HO4.out ⟨b4,o4,none⟩ (Xl ds).length c4 (flat (Xl ds)) rfl (Xw _) HS4.out (Yp _) (by unfold maxLen;omega) (by omega) (by have:=hb6.size;omega) ?_;intro v7 w7 hown7 hgrow7 _)
         have hb7:RowKit.Below w.heap.size w w7:=hb6.grown hgrow7 hb6.size (λq hq=>(HO4.out.lt q hq).1);go_wp2_with fail
         have HO7:=Ld hown7;clear hown7;go_ret
         rw [HOV.out];refine X6.own (n:=1+(Xl ds).length) ?_ hb7;have:=HO7.out;simpa [flat,Nd.cells] using this
end Go.Proofs.YtpheiojmcafolaaGreatDoor
namespace Go.Proofs.YtpheiojmcafolaaGreatDoor
open Go.RowKit
theorem Z5f {m:Mv}(hm:Zq m=0){vals:Bool}{k:Nat}{xs:List Nd}(h:Mq vals xs)(hl:xs.length<=200)(hk:xs.length<=k+1)(ih:∀p,Mq vals p->p.length<=k->p.length<=200->Zh4 m vals k p) :
 ∃x ps,Pcs m vals k xs x ps/\(vals=true->x.op=5->∀p∈ps,Vx p):=by
 obtain ⟨x,ps,rfl,hc⟩:=h.cut;rw [List.length_cons] at hl hk;obtain ⟨b,hb⟩:=h.ex;refine ⟨x,ps,⟨rfl,by simpa using hl,λp hp=>(hc.mq p hp).ex,λy hy=>?_,λp hp=>ih p (hc.mq p hp) (by have:=Vk hp;omega) (by have:=Vk hp;omega),λp hp q hq=>?_⟩,hc.set⟩
 . have:=Z4z hb y hy;rw [List.length_cons] at this;omega
 . have hle:=Vk hp;obtain ⟨h1,h2,_⟩:=(hc.mq p hp).mov hm (by omega) (k:=k) (by omega) hq;exact ⟨h1,h2⟩
theorem Zc0 {m:Mv}(hm:Zq m=0){vals:Bool}(hset:vals=true->∀k e x ps,Pcs m vals k e x ps->e.length<=k+1->x.op=5->(∀p∈ps,Vx p)->Zh4 m vals (k+1) e) :
 ∀(k:Nat) (xs:List Nd),Mq vals xs->xs.length<=200->xs.length<=k->Zh4 m vals k xs
 | 0,xs,h,hl,hk=>by
  obtain ⟨b,hb⟩:=h.ex;obtain ⟨x,r,rfl,_⟩:=Jb hb;simp at hk
 | k+1,xs,h,hl,hk=>by
  obtain ⟨x,ps,hP,hv⟩:=Z5f hm h hl hk (λp hp h1 h2=>Zc0 hm hset k p hp h2 h1);by_cases h6:x.op=6
  . exact Zvu m vals k xs x ps hP h6
  . cases vals with
    | false=>exact Zpi m false k xs x ps hP h6 (λ_=>rfl)
    | true=>
     by_cases h5:x.op=5
     . exact hset rfl k xs x ps hP hk h5 (hv rfl h5)
     . exact Zpi m true k xs x ps hP h6 (λh=>absurd h h5)
theorem Zmm (w:World):(Instr.typeAssert (.iface 165 (.agg #[])) 20 165 true).run Tryz.prog w=.ok (.tuple #[.agg #[],.bool true]) w:=by kernel_rfl
theorem Zxt (p q:Addr)(w:World) :
 CallsD Tryz.prog 100 #[.pointer (some p),.pointer (some q)] .returning w λe u' w'=>e=.returned (.tuple #[])/\u'=.returning/\w'=w:=by
 refine callsD_of_wpS Tryz.func100 rfl λc₀ cs hu=>?_;apply wpS_seq;apply wpS_region;simp [wpOpsS,go_sem,recoverD,hu,Tryz.ntmps100,Exit.thenS];refine wpS_of_wp ?_;simp only [Array.replicate_succ,Array.replicate_zero,List.push_toArray,List.nil_append,List.cons_append];go_wp2
 cases c₀
 simp_all [bodyPostS,results,Tryz.results100]
theorem Zv1 (b:Nat)(x y:Value)(older:List PanicEntry)(w:World)(hc:w.cell? ⟨b,0,none⟩=some x)(hz:w.frozen? ⟨b,0,none⟩=false)(hc2:w.cell? ⟨b+1,0,none⟩=some y)(hz2:w.frozen? ⟨b+1,0,none⟩=false) :
 CallsD Tryz.prog 100 #[.pointer (some ⟨b,0,none⟩),.pointer (some ⟨b+1,0,none⟩)] (.panicking ({ v:=.iface 165 (.agg #[]),recovered:=false } :: older)) w λe u' w'=>
  e=.returned (.tuple #[])/\u'=.panicking ({ v:=.iface 165 (.agg #[]),recovered:=true } :: older)/\∃o,w'=((w.alloc o).setCell ⟨b,0,none⟩ (.slice none 0 0)).setCell ⟨b+1,0,none⟩ (.iface 96 (.int .i64 6)):=by
 have hta:=Zmm;have hcw:(w.alloc (.cells #[] 165)).cell? ⟨b,0,none⟩=some x:=(World.cell?_alloc_lt w _ _ (World.block_lt_of_cell? w _ hc)).trans hc;have hzw:(w.alloc (.cells #[] 165)).frozen? ⟨b,0,none⟩=false:=(((Below.refl w.heap.size w).alloc (nL _) _).frozen (World.block_lt_of_cell? w _ hc)).trans hz;have hcw2:(w.alloc (.cells #[] 165)).cell? ⟨b+1,0,none⟩=some y:=(World.cell?_alloc_lt w _ _ (World.block_lt_of_cell? w _ hc2)).trans hc2;have hzw2:(w.alloc (.cells #[] 165)).frozen? ⟨b+1,0,none⟩=false:=(((Below.refl w.heap.size w).alloc (nL _) _).frozen (World.block_lt_of_cell? w _ hc2)).trans hz2;refine callsD_of_wpS Tryz.func100 rfl λc₀ cs hu=>?_;apply wpS_seq;apply wpS_region;simp [wpOpsS,go_sem,recoverD,hu,Tryz.ntmps100,Exit.thenS];refine wpS_of_wp ?_;simp only [Array.replicate_succ,Array.replicate_zero,List.push_toArray,List.nil_append,List.cons_append];go_wp2
 simp [bodyPostS,results,Tryz.results100];exact ⟨_,rfl⟩
def Zcm (w:World)(r:Ending)(w':World)(xs:List Nd)(k:Int):Prop:=
 ∃A c,r=.returned (.tuple #[.slice A xs.length c,Yh k])/\xs.length<=c/\c<=9223372036854775807/\Ye w' w'.heap.size A xs/\Below w.heap.size w w'/\∀b o,A=some ⟨b,o,none⟩->w.heap.size<=b
theorem Zcm.none {w w':World}{k:Int}(h:Below w.heap.size w w'):Zcm w (.returned (.tuple #[.slice none 0 0,Yh k])) w' [] k:=
 ⟨Option.none,0,rfl,nL _,by omega,Ye.nil _ _ _,h,by simp⟩
theorem Zfm (m:Mv)(vals:Bool)(e:List Nd)(hp:Zh4 m vals e.length e)(A:Option Addr)(c:Nat)(w:World)(hc:e.length<=c)(hcm:c<=9223372036854775807)(hsl:Ye w w.heap.size A e) :
 Calls Tryz.prog 70 #[.agg #[.int .i64 m.what,.string m.fr,.string m.to_,.bool vals],.slice A e.length c] w λr w'=>Zcm w r w' ((Zt m vals e.length e).getD []) (if (Zt m vals e.length e).isSome=true then 0 else 6):=by
 have hmf:∀(fn:Fn) (first cap:Array Value) (w:World),(Instr.makeFunc fn first cap).run Tryz.prog w=.ok (.func fn first cap) w:=λ_ _ _ _=>rfl;obtain ⟨w1,hw1⟩:∃w1,((w.alloc (.cells #[.int .i64 m.what,.string m.fr,.string m.to_,.bool vals] 128)).alloc (.cells #[.slice none 0 0] 22)).alloc (.cells #[.nilIface] 27)=w1:=⟨_,rfl⟩;have hb1:Below w.heap.size w w1:=by rw [<-hw1];(repeat (first | assumption | exact bR | apply bD | apply Za | refine bA ?_ _))
 have hsz:w.heap.size+3=w1.heap.size:=by rw [<-hw1];simp
 have hc1:w1.cell? ⟨w.heap.size+1,0,none⟩=some (.slice none 0 0):=by rw [<-hw1];simp [go_sem]
 have hz1:w1.frozen? ⟨w.heap.size+1,0,none⟩=false:=by rw [<-hw1];simp [go_sem]
 have hc2:w1.cell? ⟨w.heap.size+1+1,0,none⟩=some .nilIface:=by rw [<-hw1];simp [go_sem]
 have hz2:w1.frozen? ⟨w.heap.size+1+1,0,none⟩=false:=by rw [<-hw1];simp [go_sem]
 have HP:=Ld (hp w1 A c hc hcm ((hsl.below hb1).more hb1.size));have HSZ:=Ld hsz;have hlt:w.heap.size+1+1 < w1.heap.size:=by omega
 have HW1:=Ld hw1;clear hsl hsz hp hw1;generalize Zt m vals e.length e=o at HP ⊢;go_enter_defers Tryz.func70,Tryz.ntmps70
 go_wp2_with fail
 rw [HW1.out];cases o with
 | none=>
  refine HP.out.mono ?_;rintro r w2 hpost;obtain ⟨rfl,hb2⟩:=hpost.2 rfl;clear hpost;have d1:=(hb2.cell (p:=⟨w.heap.size+1,0,none⟩) (by show w.heap.size+1 < _;omega)).trans hc1;have d2:=(hb2.cell (p:=⟨w.heap.size+1+1,0,none⟩) hlt).trans hc2;have y1:=(hb2.frozen (p:=⟨w.heap.size+1,0,none⟩) (by show w.heap.size+1 < _;omega)).trans hz1;have y2:=(hb2.frozen (p:=⟨w.heap.size+1+1,0,none⟩) hlt).trans hz2;have hbw:=hb1.trans (hb2.mono hb1.size);clear hc1 hc2 hz1 hz2;go_wp2_with fail
  refine leaves_cons (f:=100) (args:=#[.pointer (some ⟨w.heap.size+1,0,none⟩),.pointer (some ⟨w.heap.size+1+1,0,none⟩)]) (by simp) (by simp [go_sem]) ?_;refine (Zv1 (w.heap.size+1) _ _ [] _ d1 y1 d2 y2).mono ?_;rintro e' u' w'' ⟨rfl,rfl,o,rfl⟩;have hlw2:w.heap.size+1+1 < w2.heap.size:=by have:=hb2.size;omega
  have e1:(((w2.alloc o).setCell ⟨w.heap.size+1,0,none⟩ (.slice none 0 0)).setCell ⟨w.heap.size+1+1,0,none⟩ (.iface 96 (.int .i64 6))).cell? ⟨w.heap.size+1+1,0,none⟩=some (.iface 96 (.int .i64 6)):=by
   have g1:(w2.alloc o).cell? ⟨w.heap.size+1+1,0,none⟩=some .nilIface:=(World.cell?_alloc_lt w2 _ _ hlw2).trans d2;exact World.cell?_setCell_same _ _ _ ((World.cell?_setCell_other _ _ _ _ (by simp)).trans g1)
  have e2:(((w2.alloc o).setCell ⟨w.heap.size+1,0,none⟩ (.slice none 0 0)).setCell ⟨w.heap.size+1+1,0,none⟩ (.iface 96 (.int .i64 6))).cell? ⟨w.heap.size+1,0,none⟩=some (.slice none 0 0):=by
   rw [World.cell?_setCell_other _ _ _ _ (by simp)];exact World.cell?_setCell_same _ _ _ ((World.cell?_alloc_lt w2 _ _ (by show w.heap.size+1 < _;omega)).trans d1)
  simp [Leaves,settle,results,Tryz.results70,go_sem,e1,e2];have hfin:=Zcm.none (k:=6) (w:=w) (w':=((w2.alloc o).setCell ⟨w.heap.size+1,0,none⟩ (.slice none 0 0)).setCell ⟨w.heap.size+1+1,0,none⟩ (.iface 96 (.int .i64 6))) (((hbw.alloc hbw.size _).setCell (by show w.heap.size<=w.heap.size+1;omega) _).setCell (by show w.heap.size<=w.heap.size+1+1;omega) _);rw [Uh (k:=6) (by omega)] at hfin;exact hfin
 | some ys=>
  refine HP.out.mono ?_;rintro r w2 hpost;obtain ⟨A2,c2,rfl,h1,h2,h3,hb2,h4⟩:=hpost.1 ys rfl;clear hpost;have d1:=(hb2.cell (p:=⟨w.heap.size+1,0,none⟩) (by show w.heap.size+1 < _;omega)).trans hc1;have d2:=(hb2.cell (p:=⟨w.heap.size+1+1,0,none⟩) hlt).trans hc2;have y1:=(hb2.frozen (p:=⟨w.heap.size+1,0,none⟩) (by show w.heap.size+1 < _;omega)).trans hz1;have y2:=(hb2.frozen (p:=⟨w.heap.size+1+1,0,none⟩) hlt).trans hz2;have hbw:=hb1.trans (hb2.mono hb1.size);have H3:Hid (Ye w2 w2.heap.size A2 ys):=h3;have H4:=Ld h4;have H1:=Ld h1;clear hc1 hc2 hz1 hz2 h3 h4 h1;go_wp2_with fail
  refine leaves_cons (f:=100) (args:=#[.pointer (some ⟨w.heap.size+1,0,none⟩),.pointer (some ⟨w.heap.size+1+1,0,none⟩)]) (by simp) (by simp [go_sem]) ?_;refine (Zxt ⟨w.heap.size+1,0,none⟩ ⟨w.heap.size+1+1,0,none⟩ _).mono ?_;rintro e' u' w'' ⟨rfl,rfl,rfl⟩;simp [Leaves,settle,results,Tryz.results70,go_sem,d1,d2];have hoff:Xu (λb=>b < w1.heap.size) w2 w2.heap.size A2 ys:=λhne=>by
   obtain ⟨b,o,e,g1,g2⟩:=H3.out hne;exact ⟨b,o,e,g1,by have:=H4.out b o e;omega,g2⟩
  refine ⟨A2,c2,rfl,H1.out,h2,?_,((hbw.setCell (by show w.heap.size<=w.heap.size+1;omega) _).setCell (by show w.heap.size<=w.heap.size+1+1;omega) _),λb o e=>by have:=H4.out b o e;have:=HSZ.out;omega⟩;refine (hoff.keep (λp hp hg=>?_) (by simp)).sl;have hg':¬p.block < w1.heap.size:=hg;rw [World.cell?_setCell_other _ _ _ _ (by intro h;apply hg';rw [<-h];exact hlt),World.cell?_setCell_other _ _ _ _ (by intro h;apply hg';rw [<-h];show w.heap.size+1 < _;omega)]
def Zcz (m:Mv)(e:List Nd):List Nd × Int:=
 if Zq m≠0 then ([],Zq m) else if Zo e≠0 then ([],Zo e) else ((Zs1 m e).getD [],if (Zs1 m e).isSome=true then 0 else 6)
set_option maxRecDepth 100000 in
theorem Zwg (m:Mv)(e:List Nd)(A:Option Addr)(c:Nat)(w:World)(hz:MvZ m)(hc:e.length<=c)(hcm:c<=9223372036854775807)(hok:Y0 e)(hsl:Ye w w.heap.size A e) :
 Calls Tryz.prog 31 #[.agg #[.int .i64 m.what,.string m.fr,.string m.to_],.slice A e.length c] w λr w'=>U4 w r w' (Zcz m e).1 (Zcz m e).2:=by
 have HC:=Ld (λW=>Vy m W hz);have HT:=Ld (λW (hW:Below w.heap.size w W)=>Ux e A c W hc hcm hok ((hsl.below hW).more hW.size));by_cases hm:Zq m=0
 . have tm:(Zq m != 0)=false:=by simp [hm]
   by_cases he:Zo e=0
   . have te:(Zo e != 0)=false:=(by simp [he]);have HV:Hid (Zcz m e=((Zs1 m e).getD [],if (Zs1 m e).isSome=true then 0 else 6)):=(by show _=_;unfold Zcz;rw [if_neg (by simp [hm]),if_neg (by simp [he])]);have hex:=(Xd e).1 he;have HA:=Ld (λW (hW:Below w.heap.size w W)=>Zfm m false e (Zc0 hm (λh=>by cases h) e.length e (.inl ⟨rfl,_,hex.2⟩) hex.1 (nL _)) A c W hc hcm ((hsl.below hW).more hW.size));clear hm he hex hsl hok;go_enter Tryz.func31,Tryz.ntmps31
     go_wp2_with fail
     refine (HC.out _).mono ?_;rintro r w1 ⟨rfl,hb1⟩;have hw1:Below w.heap.size w w1:=Below.trans (by (repeat (first | assumption | exact bR | apply bD | apply Za | refine bA ?_ _))) (hb1.mono (by simp));obtain ⟨hcc,-⟩:=Xi hb1;have hs1:w.heap.size < w1.heap.size:=(by have:=hb1.size;simp at this;omega);clear hb1;go_wp2_with fail
     refine (HT.out _ hw1).mono ?_;rintro r w2 ⟨rfl,hb2⟩;have hw2:=hw1.trans (hb2.mono hw1.size);obtain ⟨hcc2,-⟩:=Xi hb2;clear hb2;go_wp2_with fail
     refine (HA.out _ hw2).mono ?_;rintro r w3 ⟨A3,c3,rfl,h31,h32,h33,hb3,-⟩;have H33:=Ld h33;have H31:=Ld h31;have HVV:Hid ((Zcz m e).1=(Zt m false e.length e).getD []/\(Zcz m e).2=if (Zt m false e.length e).isSome=true then 0 else 6):=(by rw [HV.out];exact ⟨rfl,rfl⟩);clear h33 h31 HA HV hcc hcc2;generalize (Zt m false e.length e).getD []=ys at *;generalize (if (Zt m false e.length e).isSome=true then (0:Int) else 6)=kk at *;go_wp2_with fail
     go_ret2
     rw [HVV.out.1,HVV.out.2];exact ⟨A3,c3,rfl,H31.out,h32,H33.out,hw2.trans (hb3.mono hw2.size)⟩
   . have te:(Zo e != 0)=true:=(by simp [he]);have HV:Hid (Zcz m e=([],Zo e)):=(by show _=_;unfold Zcz;rw [if_neg (by simp [hm]),if_pos he]);clear hm he hsl hok;generalize Zo e=k at HT te HV;go_enter Tryz.func31,Tryz.ntmps31
     go_wp2_with fail
     refine (HC.out _).mono ?_;rintro r w1 ⟨rfl,hb1⟩;have hw1:Below w.heap.size w w1:=Below.trans (by (repeat (first | assumption | exact bR | apply bD | apply Za | refine bA ?_ _))) (hb1.mono (by simp));clear hb1;go_wp2_with fail
     refine (HT.out _ hw1).mono ?_;rintro r w2 ⟨rfl,hb2⟩;have hw2:=hw1.trans (hb2.mono hw1.size);clear hb2;go_wp2_with fail
     go_ret2
     rw [HV.out];exact U4.none hw2
 . have tm:(Zq m != 0)=true:=by simp [hm]
   have HV:Hid (Zcz m e=([],Zq m)):=by show _=_;unfold Zcz;rw [if_pos hm]
   clear hm hsl hok;generalize Zq m=k at HC tm HV;go_enter Tryz.func31,Tryz.ntmps31
   go_wp2_with fail
   refine (HC.out _).mono ?_;rintro r w1 ⟨rfl,hb1⟩;have hw1:Below w.heap.size w w1:=Below.trans (by (repeat (first | assumption | exact bR | apply bD | apply Za | refine bA ?_ _))) (hb1.mono (by simp));clear hb1;go_wp2_with fail
   go_ret2
   rw [HV.out];exact U4.none hw1
structure Zte (m:Mv)(b:Nat)(W:World):Prop where
 c0:W.cell? ⟨b,0,none⟩=some (.int .i64 m.what)
 c1:W.cell? ⟨b,1,none⟩=some (.string m.fr)
 c2:W.cell? ⟨b,2,none⟩=some (.string m.to_)
 lt:b < W.heap.size
theorem Zte.later {m:Mv}{b:Nat}{W W':World}(h:Zte m b W)(hb:Below W.heap.size W W'):Zte m b W':=
 ⟨(hb.cell (p:=⟨b,0,none⟩) h.lt).trans h.c0,(hb.cell (p:=⟨b,1,none⟩) h.lt).trans h.c1,(hb.cell (p:=⟨b,2,none⟩) h.lt).trans h.c2,Nat.lt_of_lt_of_le h.lt hb.size⟩
def Ze7 (m:Mv)(x:Nd):Bool:=Z7 m x && x.s.toList==m.to_.toList
set_option maxRecDepth 100000 in
theorem Zv3 (m:Mv)(x:Nd)(b:Nat)(w:World)(h:Zte m b w) :
 Calls Tryz.prog 67 #[.agg #[.int .i64 x.op,.int .i64 x.n,.string x.s,.string x.t],.pointer (some ⟨b,0,none⟩)] w λr w'=>r=.returned (.bool (Ze7 m x))/\Below w.heap.size w w':=by
 have HL:=Ld (λW=>Zih m x W);have HM:=Ld h;obtain ⟨c0,c1,c2,hlt⟩:=h;obtain ⟨v,hv⟩:∃v,Ze7 m x=v:=⟨_,rfl⟩;rw [hv];have HV:=Ld hv;clear hv;cases hl:Z7 m x with
 | true=>
  have HV2:Hid (v=(x.s.toList==m.to_.toList)):=by show _=_;rw [<-HV.out];unfold Ze7;rw [hl];rfl
  rw [hl] at HL;clear hl;go_enter Tryz.func67,Tryz.ntmps67
  go_wp2_with fail
  refine (HL.out _).mono ?_;rintro r w1 ⟨rfl,hb1⟩;have hw1:Below w.heap.size w w1:=Below.trans (by (repeat (first | assumption | exact bR | apply bD | apply Za | refine bA ?_ _))) (hb1.mono (by simp));have e2:=(HM.out.later hw1).c2;obtain ⟨hcc,-⟩:=Xi hb1;have hs1:w.heap.size < w1.heap.size:=by have:=hb1.size;simp at this;omega
  clear hb1 c0 c1 c2;go_wp2_with fail
  all_goals (go_ret;rw [HV2.out];exact ⟨rfl,hw1⟩)
 | false=>
  have HV2:Hid (v=false):=by show _=_;rw [<-HV.out];unfold Ze7;rw [hl];rfl
  rw [hl] at HL;clear hl;go_enter Tryz.func67,Tryz.ntmps67
  go_wp2_with fail
  refine (HL.out _).mono ?_;rintro r w1 ⟨rfl,hb1⟩;have hw1:Below w.heap.size w w1:=Below.trans (by (repeat (first | assumption | exact bR | apply bD | apply Za | refine bA ?_ _))) (hb1.mono (by simp));clear hb1 c0 c1 c2;go_wp2_with fail
  go_ret
  rw [HV2.out];exact ⟨rfl,hw1⟩
theorem Zyb {m:Mv}{e:List Nd}{k:Nat}{x:Nd}(hx:e[k]? = some x)(h:(e.take k).any (Ze7 m)=false)(hh:Ze7 m x=false):(e.take (k+1)).any (Ze7 m)=false:=by
 rw [List.take_add_one,hx,List.any_append,h];simp [hh]
theorem Z1u {m:Mv}{e:List Nd}{k:Nat}{x:Nd}(hx:e[k]? = some x)(hh:Ze7 m x=true):e.any (Ze7 m)=true:=List.any_eq_true.2 ⟨x,mG hx,hh⟩
set_option maxRecDepth 100000 in
theorem Zn8 (m:Mv)(e:List Nd)(A:Option Addr)(c b:Nat)(w:World)(h:Zte m b w)(hl:e.length<=9223372036854775807)(hsl:Ye w w.heap.size A e) :
 Calls Tryz.prog 99 #[.slice A e.length c,.func (.func 67) #[] #[.pointer (some ⟨b,0,none⟩)]] w λr w'=>(∃k:Int,r=.returned (.int .i64 k)/\decide (0<=k)=e.any (Ze7 m))/\Below w.heap.size w w':=by
 have HM:=Ld h;have HS:=Ld hsl;clear h hsl;go_enter Tryz.func99,Tryz.ntmps99
 go_wp2_with fail
 go_loopw [8] (λkk wr=>∃k:Nat,kk=.int .i64 k/\k<=e.length/\Hid ((e.take k).any (Ze7 m)=false)/\Below w.heap.size w wr) (λkk _=>e.length - (intOf kk).toNat)
 case atStart=>exact ⟨0,rfl,by omega,by simp [Hid],Below.refl _ _⟩
 case round=>
  obtain ⟨k,rfl,hk,HK,hbr⟩:=hrel;have hzr:=hbr.size;by_cases hlt:k < e.length
  . obtain ⟨b1,o1,rfl,hb1,hcs⟩:=(HS.out.below hbr).at_ hlt;obtain ⟨x,hx⟩:∃x,e[k]? = some x:=⟨_,gE hlt⟩;obtain ⟨d0,d1,d2,d3⟩:=hcs k x hx;have HX:=Ld hx;have HC:=Ld (Zv3 m x b wr (HM.out.later hbr));clear hcs hx;cases hh:Ze7 m x with
    | true=>
     have HH:=Ld hh;rw [hh] at HC;clear hh;go_wp2_with fail
     refine HC.out.mono ?_;rintro r w1 ⟨rfl,hb2⟩;have hw1:=hbr.trans (hb2.mono hbr.size);clear hb2 d0 d1 d2 d3;go_wp2_with fail
     go_ret
     refine ⟨⟨k,rfl,?_⟩,hw1⟩;rw [Z1u HX.out HH.out];simp
    | false=>
     have HH:=Ld hh;rw [hh] at HC;clear hh;go_wp2_with fail
     refine HC.out.mono ?_;rintro r w1 ⟨rfl,hb2⟩;have hw1:=hbr.trans (hb2.mono hbr.size);clear hb2 d0 d1 d2 d3;go_wp2_with fail
     exact ⟨⟨k+1,by go_num,by omega,Zyb HX.out HK.out HH.out,hw1⟩,by simp [intOf];omega⟩
  . have HE:Hid (e.any (Ze7 m)=false):=by
     have:=HK.out;rw [List.take_of_length_le (by omega)] at this;exact this
    go_wp2_with fail
    go_ret
    refine ⟨⟨-1,rfl,?_⟩,hbr⟩;rw [HE.out];rfl
set_option maxRecDepth 100000 in
theorem Zhi (m:Mv)(e:List Nd)(A:Option Addr)(c b:Nat)(w:World)(h:Zte m b w)(hl:e.length<=9223372036854775807)(hsl:Ye w w.heap.size A e) :
 Calls Tryz.prog 66 #[.slice A e.length c,.func (.func 67) #[] #[.pointer (some ⟨b,0,none⟩)]] w λr w'=>r=.returned (.bool (e.any (Ze7 m)))/\Below w.heap.size w w':=by
 have HI:=Ld (Zn8 m e A c b w h hl hsl);clear h hsl;generalize e.any (Ze7 m)=v at HI ⊢;go_enter Tryz.func66,Tryz.ntmps66
 go_wp2_with fail
 refine HI.out.mono ?_;rintro r w1 ⟨⟨k,rfl,hk⟩,hb1⟩;have HK:=Ld hk;clear hk;go_wp2_with fail
 go_ret
 exact ⟨Vj HK.out,hb1⟩
def Vn (m:Mv)(e:List Nd):Bool × Int:=if Zq m≠0 then (false,Zq m) else if Zo e≠0 then (false,Zo e) else (Zg9 m e,0)
set_option maxRecDepth 100000 in
theorem Zh2 (m:Mv)(e:List Nd)(A:Option Addr)(c:Nat)(w:World)(hz:MvZ m)(hc:e.length<=c)(hcm:c<=9223372036854775807)(hok:Y0 e)(hsl:Ye w w.heap.size A e) :
 Calls Tryz.prog 27 #[.agg #[.int .i64 m.what,.string m.fr,.string m.to_],.slice A e.length c] w λr w'=>r=.returned (.tuple #[.bool (Vn m e).1,Yh (Vn m e).2])/\Below w.heap.size w w':=by
 have HC:=Ld (λW=>Vy m W hz);have HT:=Ld (λW (hW:Below w.heap.size w W)=>Ux e A c W hc hcm hok ((hsl.below hW).more hW.size));by_cases hm:Zq m=0
 . have tm:(Zq m != 0)=false:=by simp [hm]
   by_cases he:Zo e=0
   . have te:(Zo e != 0)=false:=(by simp [he]);have HV:Hid (Vn m e=(!e.any (Ze7 m),0)):=(by show _=_;unfold Vn;rw [if_neg (by simp [hm]),if_neg (by simp [he])];rfl);have HA:=Ld (λb W (hW:Below w.heap.size w W) (hM:Zte m b W)=>Zhi m e A c b W hM (by omega) ((hsl.below hW).more hW.size));clear hm he hsl hok;generalize e.any (Ze7 m)=v at HA HV;have HB:Hid (Zte m w.heap.size (w.alloc (.cells #[.int .i64 m.what,.string m.fr,.string m.to_] 56))):=by
      have h:=Blk.new w 56 #[.int .i64 m.what,.string m.fr,.string m.to_];exact ⟨h.cell 0,h.cell 1,h.cell 2,by simp⟩
     have hmf:∀(fn:Fn) (first cap:Array Value) (w:World),(Instr.makeFunc fn first cap).run Tryz.prog w=.ok (.func fn first cap) w:=λ_ _ _ _=>rfl;go_enter Tryz.func27,Tryz.ntmps27
     go_wp2_with fail
     refine (HC.out _).mono ?_;rintro r w1 ⟨rfl,hb1⟩;have hw1:Below w.heap.size w w1:=Below.trans (by (repeat (first | assumption | exact bR | apply bD | apply Za | refine bA ?_ _))) (hb1.mono (by simp));have HB1:=Ld (HB.out.later hb1);clear hb1;go_wp2_with fail
     refine (HT.out _ hw1).mono ?_;rintro r w2 ⟨rfl,hb2⟩;have hw2:=hw1.trans (hb2.mono hw1.size);have HB2:=Ld (HB1.out.later hb2);clear hb2;go_wp2_with fail
     refine (HA.out _ _ hw2 HB2.out).mono ?_;rintro r w3 ⟨rfl,hb3⟩;go_wp2_with fail
     go_ret2
     rw [HV.out];exact ⟨rfl,hw2.trans (hb3.mono hw2.size)⟩
   . have te:(Zo e != 0)=true:=(by simp [he]);have HV:Hid (Vn m e=(false,Zo e)):=(by show _=_;unfold Vn;rw [if_neg (by simp [hm]),if_pos he]);clear hm he hsl hok;generalize Zo e=k at HT te HV;go_enter Tryz.func27,Tryz.ntmps27
     go_wp2_with fail
     refine (HC.out _).mono ?_;rintro r w1 ⟨rfl,hb1⟩;have hw1:Below w.heap.size w w1:=Below.trans (by (repeat (first | assumption | exact bR | apply bD | apply Za | refine bA ?_ _))) (hb1.mono (by simp));clear hb1;go_wp2_with fail
     refine (HT.out _ hw1).mono ?_;rintro r w2 ⟨rfl,hb2⟩;have hw2:=hw1.trans (hb2.mono hw1.size);clear hb2;go_wp2_with fail
     go_ret2
     rw [HV.out];exact ⟨rfl,hw2⟩
 . have tm:(Zq m != 0)=true:=by simp [hm]
   have HV:Hid (Vn m e=(false,Zq m)):=by show _=_;unfold Vn;rw [if_pos hm]
   clear hm hsl hok;generalize Zq m=k at HC tm HV;go_enter Tryz.func27,Tryz.ntmps27
   go_wp2_with fail
   refine (HC.out _).mono ?_;rintro r w1 ⟨rfl,hb1⟩;have hw1:Below w.heap.size w w1:=Below.trans (by (repeat (first | assumption | exact bR | apply bD | apply Za | refine bA ?_ _))) (hb1.mono (by simp));clear hb1;go_wp2_with fail
   go_ret2
   rw [HV.out];exact ⟨rfl,hw1⟩
end Go.Proofs.YtpheiojmcafolaaGreatDoor
