/-
 THE WALKS: pol.Check.
-/
import Derived.Test.YtpheiojmcafolaaGreatDoorSz08
import Derived.DeepKeys5
import Derived.Maps.OwnSet
import Derived.Maps.Views
import Derived.Maps.OwnOps
import Derived.Maps.RangeWalk
import Derived.Laws.StructEq
set_option maxRecDepth 100000
set_option maxHeartbeats 25600000
namespace Go.Proofs.YtpheiojmcafolaaGreatDoor
open Go.RowKit
structure CdM where
 u:Bool
 A:Option Addr
 c:Nat
 e:List Nd
def CdM.cells (x:CdM):List Value:=[.bool x.u,.slice x.A x.e.length x.c]
def CdM.cd (x:CdM):Cd:=⟨x.u,x.e⟩
theorem Zxc:Kh CdM.cells 2:=⟨λ_=>rfl,by omega,λx u hu=>by
 simp only [CdM.cells,List.mem_cons,List.not_mem_nil,or_false] at hu;rcases hu with rfl | rfl <;> rfl⟩
abbrev Z54:=SlG CdM.cells 2
structure Zef (w:World)(B:Nat)(x:CdM):Prop where
 sl:Ye w B x.A x.e
 le:x.e.length<=x.c
 max:x.c<=9223372036854775807
 ok:Y0 x.e
structure Zbe (w:World)(B:Nat)(A:Option Addr)(cs:List CdM):Prop where
 sl:Z54 w B A cs
 good:∀x∈cs,Zef w B x
theorem Zef.below {w w':World}{B:Nat}{x:CdM}(h:Zef w B x)(hb:Below B w w'):Zef w' B x:=⟨h.sl.below hb,h.le,h.max,h.ok⟩
theorem Zef.more {w:World}{B B':Nat}{x:CdM}(h:Zef w B x)(hB:B<=B'):Zef w B' x:=⟨h.sl.more hB,h.le,h.max,h.ok⟩
theorem Zbe.later {w w':World}{A:Option Addr}{cs:List CdM}(h:Zbe w w.heap.size A cs)(hb:Below w.heap.size w w'):Zbe w' w'.heap.size A cs:=
 ⟨h.sl.later hb,λx hx=>((h.good x hx).below hb).more hb.size⟩
structure Z50 (w:World)(b o:Nat)(x:CdM):Prop where
 c0:w.cell? ⟨b,o,none⟩=some (.bool x.u)
 c1:w.cell? ⟨b,o+1,none⟩=some (.slice x.A x.e.length x.c)
theorem Z59 {w:World}{b o:Nat}{x:CdM}(h:AtG CdM.cells w b o x):Z50 w b o x:=⟨h 0 _ rfl,h 1 _ rfl⟩
theorem Zmx {w:World}{B:Nat}{A:Option Addr}{xs:List CdM}(h:Z54 w B A xs){i:Nat}{x:CdM}(hx:xs[i]? = some x):∃b o,A=some ⟨b,o,none⟩/\b < B/\Z50 w b (o+i*2) x:=by
 obtain ⟨b,o,h1,h2,h3⟩:=h.at_ (List.getElem?_eq_some_iff.1 hx).1;exact ⟨b,o,h1,h2,Z59 (h3 i x hx)⟩
def PoZ (p:Po):Prop:=p.name.size<=140737488351232/\ScZ p.who/\ScZ p.act/\ScZ p.what
theorem Zt7 {cs:List CdM}{k:Nat}{x:CdM}(h:∀i y,i < k->cs[i]? = some y->Xe y.e=0)(hx:cs[k]? = some x)(hb:¬Xe x.e=0):V8 (cs.map CdM.cd)=Xe x.e:=by
 induction cs generalizing k with
 | nil=>simp at hx
 | cons y r ih=>
  cases k with
  | zero=>
   simp at hx;subst hx;show (if Xe y.e≠0 then Xe y.e else _)=_;rw [if_pos hb]
  | succ k=>
   have h0:=h 0 y (by omega) rfl;show (if Xe y.e≠0 then Xe y.e else V8 (r.map CdM.cd))=_;rw [if_neg (λhn=>hn h0)];exact ih (λi z hi hz=>h (i+1) z (by omega) hz) hx
theorem Zzs {cs:List CdM}(h:∀(i:Nat) (y:CdM),cs[i]? = some y->Xe y.e=0):V8 (cs.map CdM.cd)=0:=by
 induction cs with
 | nil=>rfl
 | cons y r ih=>
  show (if Xe y.e≠0 then Xe y.e else V8 (r.map CdM.cd))=_;rw [if_neg (λhn=>hn (h 0 y rfl))];exact ih (λi z hz=>h (i+1) z hz)
theorem Zws (a0 a1 a2 a3 a4 a5 a6 a7 a8 a9 a10 a11:Value)(W:World):(Instr.index 150 (.agg #[a0,a1,a2,a3,a4,a5,a6,a7,a8,a9,a10,a11]) (.int .i64 0)).run Tryz.prog W=.ok (.agg #[a0,a1,a2,a3]) W:=by kernel_rfl
theorem Zw4 (a0 a1 a2 a3 a4 a5 a6 a7 a8 a9 a10 a11:Value)(W:World):(Instr.index 150 (.agg #[a0,a1,a2,a3,a4,a5,a6,a7,a8,a9,a10,a11]) (.int .i64 1)).run Tryz.prog W=.ok (.agg #[a4,a5,a6,a7]) W:=by kernel_rfl
theorem Zuk (a0 a1 a2 a3 a4 a5 a6 a7 a8 a9 a10 a11:Value)(W:World):(Instr.index 150 (.agg #[a0,a1,a2,a3,a4,a5,a6,a7,a8,a9,a10,a11]) (.int .i64 2)).run Tryz.prog W=.ok (.agg #[a8,a9,a10,a11]) W:=by kernel_rfl
set_option maxRecDepth 100000 in
theorem Ja (p:Po)(cs:List CdM)(A:Option Addr)(c:Nat)(w:World)(hp:p.conds=cs.map CdM.cd)(hz:PoZ p)(hc:Zbe w w.heap.size A cs)(hl:cs.length<=9223372036854775807) :
 Calls Tryz.prog 53 #[.agg #[.string p.name,.bool p.forbid,.int .i64 p.who.op,.string p.who.ty,.string p.who.uid.ty,.string p.who.uid.id,.int .i64 p.act.op,.string p.act.ty,.string p.act.uid.ty,.string p.act.uid.id,.int .i64 p.what.op,.string p.what.ty,.string p.what.uid.ty,.string p.what.uid.id,.slice A cs.length c]] w λe w'=>e=.returned (Yh (Ys p))/\Below w.heap.size w w':=by
 obtain ⟨q,hq⟩:∃q,Ys p=q:=⟨_,rfl⟩;rw [hq];have HQ:=Ld hq;have HP:=Ld hp;have HC:=Ld hc;have HN:=Ld (λW=>Yw p.name W hz.1);have HS0:=Ld (λW=>Zf6 p.who true hz.2.1 W);have HS1:=Ld (λW=>Zf6 p.act false hz.2.2.1 W);have HS2:=Ld (λW=>Zf6 p.what true hz.2.2.2 W);have i0:=Zws;have i1:=Zw4;have i2:=Zuk;clear hq hp hc hz;by_cases hn:Zf p.name.toList=0
 . have tn:(Zf p.name.toList != 0)=false:=by simp [hn]
   go_enter Tryz.func53,Tryz.ntmps53
   go_wp2_with fail
   refine (HN.out _).mono ?_;rintro e w1 ⟨rfl,hb1⟩;obtain ⟨hcc,hff⟩:=Xi hb1;have hlt1:w.heap.size < w1.heap.size:=by have:=hb1.size;simp at this;omega
   have hb0:Below w.heap.size w w1:=((Below.refl _ _).alloc (nL _) _).trans (hb1.mono (by simp));clear hb1;have hw1:Below w.heap.size w w1:=hb0;have d1:w1.cell? ⟨w.heap.size,14,none⟩=some (.slice A cs.length c):=(hcc w.heap.size 14 (by simp)).trans (by rw [World.cell?_alloc_new];rfl);go_wp2_with fail
   refine wp_loop_rounds 4 ?_;clear hcc hff;rw [rounds_succ];by_cases s0:Vv p.who true=true
   . have e0:scV p.who true=0:=(by rw [scV,if_pos s0]);rw [e0] at HS0;clear e0;go_wp2_with fail
     refine (HS0.out _).mono ?_;rintro e w2 ⟨rfl,hb2⟩;have d2:w2.cell? ⟨w.heap.size,14,none⟩=some (.slice A cs.length c):=(hb2.cell (p:=⟨w.heap.size,14,none⟩) (by simp;omega)).trans ((World.cell?_alloc_lt _ _ ⟨w.heap.size,14,none⟩ (by first | assumption | omega)).trans d1);have hlt2:w.heap.size < w2.heap.size:=(by have:=hb2.size;simp at this;omega);have hw2:Below w.heap.size w w2:=(hw1.alloc hw1.size _).trans (hb2.mono (by simp;have:=hw1.size;omega));clear hb2 d1;go_wp2_with fail
     rw [rounds_succ];by_cases s1:Vv p.act false=true
     . have e1:scV p.act false=0:=(by rw [scV,if_pos s1]);rw [e1] at HS1;clear e1;go_wp2_with fail
       refine (HS1.out _).mono ?_;rintro e w3 ⟨rfl,hb3⟩;have d3:w3.cell? ⟨w.heap.size,14,none⟩=some (.slice A cs.length c):=(hb3.cell (p:=⟨w.heap.size,14,none⟩) (by simp;omega)).trans ((World.cell?_alloc_lt _ _ ⟨w.heap.size,14,none⟩ (by first | assumption | omega)).trans d2);have hlt3:w.heap.size < w3.heap.size:=(by have:=hb3.size;simp at this;omega);have hw3:Below w.heap.size w w3:=(hw2.alloc hw2.size _).trans (hb3.mono (by simp;have:=hw2.size;omega));clear hb3 d2;go_wp2_with fail
       rw [rounds_succ];by_cases s2:Vv p.what true=true
       . have e2:scV p.what true=0:=(by rw [scV,if_pos s2]);rw [e2] at HS2;clear e2;go_wp2_with fail
         refine (HS2.out _).mono ?_;rintro e w4 ⟨rfl,hb4⟩;have d4:w4.cell? ⟨w.heap.size,14,none⟩=some (.slice A cs.length c):=(hb4.cell (p:=⟨w.heap.size,14,none⟩) (by simp;omega)).trans ((World.cell?_alloc_lt _ _ ⟨w.heap.size,14,none⟩ (by first | assumption | omega)).trans d3);have hlt4:w.heap.size < w4.heap.size:=(by have:=hb4.size;simp at this;omega);have hw4:Below w.heap.size w w4:=(hw3.alloc hw3.size _).trans (hb4.mono (by simp;have:=hw3.size;omega));clear hb4 d3;go_wp2_with fail
         rw [rounds_succ];have HQ2:Hid (q=if 4 < cs.length then 4 else V8 (cs.map CdM.cd)):=by
          show _=_;rw [<-HQ.out,Ys,if_neg (by simp [hn]),if_neg (by simp [s0,s1,s2]),HP.out,List.length_map]
         clear s0 s1 s2 hn HN HS0 HS1 HS2 HQ HP tn;by_cases h4:4 < cs.length
         . rw [if_pos h4] at HQ2;have t4:4 < (cs.length:Int):=(by omega);go_wp2_with fail
           go_ret
           rw [HQ2.out];exact ⟨rfl,hw4⟩
         . rw [if_neg h4] at HQ2;have t4:¬4 < (cs.length:Int):=(by omega);have HC4:=Ld (HC.out.later hw4);go_wp2_with fail
           go_loopw [45] (λii wr=>∃k:Nat,ii=.int .i64 k/\k<=cs.length/\Hid (∀i y,i < k->cs[i]? = some y->Xe y.e=0)/\Below w4.heap.size w4 wr) (λii _=>cs.length - (intOf ii).toNat)
           case atStart=>exact ⟨0,rfl,by omega,(λi y hi=>absurd hi (by omega)),Below.refl _ _⟩
           case round=>
            obtain ⟨k,rfl,hk,HK,hbr⟩:=hrel;have hzr:=hbr.size;by_cases hlt:k < cs.length
            . obtain ⟨⟨u,Ax,cx,e⟩,hx⟩:∃x,cs[k]? = some x:=⟨_,gE hlt⟩;have hg:=HC4.out.good _ (mG hx);obtain ⟨b,o,rfl,hb,⟨c0,c1⟩⟩:=Zmx (HC4.out.sl.below hbr) hx;have hbw:b < wr.heap.size:=Nat.lt_of_lt_of_le hb hzr;have HX:=Ld hx;have HTC:=Ld (λW (hW:Below w4.heap.size w4 W)=>Ux e Ax cx W hg.le hg.max hg.ok ((hg.sl.below hW).more hW.size));have HG:=Ld hg;clear hx hg;by_cases ht:Zo e=0
              . have tt:(Zo e != 0)=false:=(by simp [ht]);have HT:=Ld ht;have hel:e.length<=200:=(Zca ht).1;have HNE:=Ld (Zoq ht);clear ht;go_wp2_with fail
                refine (HTC.out _ (hbr.alloc hzr _)).mono ?_;rintro r w5 ⟨rfl,hb5⟩;obtain ⟨hcc,hff⟩:=Xi hb5;have hlt5:wr.heap.size < w5.heap.size:=(by have:=hb5.size;simp at this;omega);have hw5:Below w4.heap.size w4 w5:=(hbr.alloc hzr _).trans (hb5.mono (by simp;omega));have c5:w5.cell? ⟨wr.heap.size,1,none⟩=some (.slice Ax e.length cx):=(hcc wr.heap.size 1 (by simp)).trans (by rw [World.cell?_alloc_new];rfl);clear hb5 hcc hff;go_wp2_with fail
                go_loopw [58] (λjj wi=>∃j:Nat,jj=.int .i64 j/\j<=e.length/\Hid ((e.take j).any Zer=false)/\Below w4.heap.size w4 wi) (λjj _=>e.length - (intOf jj).toNat)
                case atStart=>exact ⟨0,rfl,by omega,rfl,hw5⟩
                case round=>
                 obtain ⟨j,rfl,hj,HJ,hbi⟩:=hrel;have hzi:=hbi.size;by_cases hlj:j < e.length
                 . obtain ⟨y,hy⟩:∃y,e[j]? = some y:=⟨_,gE hlj⟩;obtain ⟨bn,on,rfl,hbn,hcs⟩:=(HG.out.sl.below hbi).at_ hlj;obtain ⟨f0,f1,f2,f3⟩:=hcs j y hy;have hbnw:bn < wr.heap.size:=Nat.lt_of_lt_of_le hbn hzi;have hstep:(e.take (j+1)).any Zer=Zer y:=(by rw [List.take_add_one,hy,List.any_append,HJ.out];simp);have HST:=Ld hstep;have HY:=Ld hy;clear hcs hstep;by_cases h8:y.op=8
                   . have t8:(y.op==8)=true:=(by simp [h8]);have hs0:0 < y.s.size:=by
                      rcases Nat.eq_zero_or_pos y.s.size with h | h
                      . exfalso
                        refine HNE.out (Zlt.2 ⟨y,mG hy,t8,?_⟩);exact List.eq_nil_of_length_eq_zero (by rw [Zk];exact h)
                      . exact h
                     have hi0:=Za1 y.s 0 hs0;obtain ⟨l0,hl0⟩:∃r,y.s.toList=y.s[0] :: r:=⟨_,by have:=Zfq y.s 0 hs0;rwa [List.drop_zero] at this⟩;have HSN:Hid (Zer y=(y.s[0]==63)):=(by show _=_;unfold Zer Z34;rw [hl0,t8];simp);clear hl0 h8 hy;by_cases h63:y.s[0]=63
                     . have t63:((y.s[0].toNat:Int)==63)=true:=Ztk h63;have hcd:Xe e=1:=by
                        rw [Xe,if_neg (by rw [HT.out];simp),if_pos];rw [List.any_eq_true];exact ⟨y,mG HY.out,by rw [HSN.out,h63];rfl⟩
                       have hq:q=1:=(by rw [HQ2.out,Zt7 HK.out HX.out (by show ¬Xe e=0;rw [hcd];decide)];exact hcd);have HQV:=Ld hq;clear hcd h63 hq;go_wp2_with fail
                       go_ret
                       rw [HQV.out];exact ⟨rfl,hw4.trans (((hbi.alloc hzi _)).mono hw4.size)⟩
                     . have t63:((y.s[0].toNat:Int)==63)=false:=Ze8 h63;have HJ2:Hid ((e.take (j+1)).any Zer=false):=(by show _=_;rw [HST.out,HSN.out];simpa using h63);clear h63;go_wp2_with fail
                       exact ⟨⟨j+1,by go_num,by omega,HJ2,hbi.alloc hzi _⟩,by simp [intOf];omega⟩
                   . have t8:(y.op==8)=false:=(by simp [h8]);have HJ2:Hid ((e.take (j+1)).any Zer=false):=(by show _=_;rw [HST.out];unfold Zer;rw [t8];rfl);clear h8 hy;go_wp2_with fail
                     exact ⟨⟨j+1,by go_num,by omega,HJ2,hbi.alloc hzi _⟩,by simp [intOf];omega⟩
                 . have hje:j=e.length:=(by omega);have HK2:Hid (∀i y,i < k+1->cs[i]? = some y->Xe y.e=0):=by
                    intro i y hi hy;rcases Nat.lt_or_ge i k with h | h
                    . exact HK.out i y h hy
                    . have:i=k:=(by omega);subst this;rw [HX.out] at hy;injection hy with hy
                      subst hy;have:=HJ.out;rw [hje,List.take_of_length_le (nL _)] at this;show Xe e=0;rw [Xe,if_neg (by rw [HT.out];simp),if_neg (by rw [this];simp)]
                   clear hje;go_wp2_with fail
                   exact ⟨⟨k+1,by go_num,by omega,HK2,hbi⟩,by simp [intOf];omega⟩
              . have tt:(Zo e != 0)=true:=(by simp [ht]);have hq:q=Zo e:=by
                 have hcd:Xe e=Zo e:=(by rw [Xe,if_pos ht]);rw [HQ2.out,Zt7 HK.out HX.out (by show ¬Xe e=0;rw [hcd];exact ht)];exact hcd
                have HQV:=Ld hq;clear ht hq;go_wp2_with fail
                refine (HTC.out _ (hbr.alloc hzr _)).mono ?_;rintro r w5 ⟨rfl,hb5⟩;have hw5:Below w4.heap.size w4 w5:=(hbr.alloc hzr _).trans (hb5.mono (by simp;omega));go_wp2_with fail
                go_ret
                rw [HQV.out];exact ⟨rfl,hw4.trans (hw5.mono hw4.size)⟩
            . have hq:q=0:=by
               rw [HQ2.out];exact Zzs λi y hy=>HK.out i y (by have:=(List.getElem?_eq_some_iff.1 hy).1;omega) hy
              have HQV:=Ld hq;clear hq;go_wp2_with fail
              go_ret
              rw [HQV.out];exact ⟨rfl,hw4.trans (hbr.mono hw4.size)⟩
       . have e2:scV p.what true=1:=(by rw [scV,if_neg s2]);have hv:q=1:=(by rw [<-HQ.out,Ys,if_neg (by simp [hn]),if_pos];simp [s0,s1,s2]);rw [e2] at HS2;have HV:=Ld hv;clear hv e2 s2 hn s0 s1;go_wp2_with fail
         refine (HS2.out _).mono ?_;rintro e w4 ⟨rfl,hb4⟩;have hw4:Below w.heap.size w w4:=(hw3.alloc hw3.size _).trans (hb4.mono (by simp;have:=hw3.size;omega));go_wp2_with fail
         go_ret
         rw [HV.out];exact ⟨rfl,hw4⟩
     . have e1:scV p.act false=1:=(by rw [scV,if_neg s1]);have hv:q=1:=(by rw [<-HQ.out,Ys,if_neg (by simp [hn]),if_pos];simp [s0,s1]);rw [e1] at HS1;have HV:=Ld hv;clear hv e1 s1 hn s0;go_wp2_with fail
       refine (HS1.out _).mono ?_;rintro e w3 ⟨rfl,hb3⟩;have hw3:Below w.heap.size w w3:=(hw2.alloc hw2.size _).trans (hb3.mono (by simp;have:=hw2.size;omega));go_wp2_with fail
       go_ret
       rw [HV.out];exact ⟨rfl,hw3⟩
   . have e0:scV p.who true=1:=(by rw [scV,if_neg s0]);have hv:q=1:=(by rw [<-HQ.out,Ys,if_neg (by simp [hn]),if_pos];simp [s0]);rw [e0] at HS0;have HV:=Ld hv;clear hv e0 s0 hn;go_wp2_with fail
     refine (HS0.out _).mono ?_;rintro e w2 ⟨rfl,hb2⟩;have hw2:Below w.heap.size w w2:=(hw1.alloc hw1.size _).trans (hb2.mono (by simp;have:=hw1.size;omega));go_wp2_with fail
     go_ret
     rw [HV.out];exact ⟨rfl,hw2⟩
 . have tn:(Zf p.name.toList != 0)=true:=by simp [hn]
   have hv:q=Zf p.name.toList:=by rw [<-HQ.out,Ys,if_pos hn]
   rw [hv];clear hn;go_enter Tryz.func53,Tryz.ntmps53
   go_wp2_with fail
   refine (HN.out _).mono ?_;rintro e w1 ⟨rfl,hb1⟩;go_wp2_with fail
   go_ret
   exact ⟨rfl,((Below.refl _ _).alloc (nL _) _).trans (hb1.mono (by simp))⟩
end Go.Proofs.YtpheiojmcafolaaGreatDoor
namespace Go.Proofs.YtpheiojmcafolaaGreatDoor
open Go.ChangeShapes Go.WideShapes Go.RowKit Go.Deep
def Zkd {H:Type}(u:Ud):DataW H:=.agg [Zkh u.ty,Zkh u.id]
def Zao {H:Type}(s:Sc):DataW H:=.agg [.lit (.int .i64 s.op),Zkh s.ty,Zkd s.uid]
theorem Zil:Tryz.prog.cellsOf 4=1:=by kernel_rfl
theorem Zb8:Tryz.prog.cellsOf 22=1:=by kernel_rfl
theorem Zaf:Tryz.prog.cellsOf 34=2:=by kernel_rfl
theorem Zgt:Tryz.prog.cellsOf 44=4:=by kernel_rfl
theorem Zin:Tryz.prog.cellsOf 53=2:=by kernel_rfl
theorem Zow:Tryz.prog.cellsOf 45=1:=by kernel_rfl
theorem Zd2:Tryz.prog.cellsOf 47=15:=by kernel_rfl
theorem Z5s:Kh Nd.cells 4:=⟨λ_=>rfl,by omega,λx u hu=>by
 simp only [Nd.cells,List.mem_cons,List.not_mem_nil,or_false] at hu;rcases hu with rfl | rfl | rfl | rfl <;> rfl⟩
theorem SlG.nds {w:World}{B:Nat}{A:Option Addr}{xs:List Nd}(h:SlG Nd.cells 4 w B A xs):Ye w B A xs:=λhne=>by
 obtain ⟨b,o,e,hb,hc⟩:=h hne;exact ⟨b,o,e,hb,λi x hx=>⟨hc i x hx 0 _ rfl,hc i x hx 1 _ rfl,hc i x hx 2 _ rfl,hc i x hx 3 _ rfl⟩⟩
section
variable {H : Type} {enc : TypeId × Value -> H} {W : World}
theorem Zv8 {α:Type}{en:α->List Value}{k:Nat}{R:α->DataW H->Prop}{t e:TypeId}(ht:Tryz.prog.underlying t=some (.slice e))(ce:Tryz.prog.cellsOf e=k)(he:Kh en k)
 (hel:∀n cs y,DataW.trod enc Tryz.prog W 0 (λ_=>true) true n e cs=some y->∃x,cs=en x/\R x y.1) {fuel:Nat} {cs:List Value} {y:DataW H × List MemPlace}
 (hf:DataW.trod enc Tryz.prog W 0 (λ_=>true) true fuel t cs=some y) :
 ∃(A:Option Addr) (xs:List α) (c:Nat),cs = [.slice A xs.length c]/\xs.length<=c/\c<=9223372036854775807/\SlG en k W W.heap.size A xs/\(xs = []\/∃sp ds,y.1=.slice ds sp/\ds.length=xs.length/\∀x∈xs,∃d∈ds,R x d):=by
 rcases open_slice ht hf with ⟨hcs,_⟩ | ⟨a,len',cap',m,n,D,Pl,hcs,_,hl,hm,hmm,hx,hi⟩
 . exact ⟨none,[],0,hcs,by simp,by omega,SlG.nil _ _ _,.inl rfl⟩
 . simp only [if_true] at hmm;subst hmm;have hel':∀i,i < m->∃x:α,R x (D i)/\∀j u,(en x)[j]? = some u->W.cell? (a.add (i*k+j))=some u:=by
    intro i him;obtain ⟨cs',hc,ht'⟩:=hi i him;rw [ce] at hc;obtain ⟨x,rfl,hd⟩:=hel _ _ _ ht';refine ⟨x,hd,λj u hu=>?_⟩;obtain ⟨_,_,hat⟩:=World.cells?_some hc;have hj:j < k:=(by have:=(List.getElem?_eq_some_iff.1 hu).1;rwa [he.len] at this);have:=hat j hj;rw [add_add] at this;rw [this,hu]
   have hxs:∀r,r<=m->∃xs:List α,xs.length=r/\(∀x∈xs,∃d∈(List.range r).map D,R x d)/\∀i x,xs[i]? = some x->∀j u,(en x)[j]? = some u->W.cell? (a.add (i*k+j))=some u:=by
    intro r;induction r with
    | zero=>intro _;exact ⟨[],rfl,by simp,λi x hx=>by simp at hx⟩
    | succ r ih=>
     intro hk;obtain ⟨xs,h1,h3,h4⟩:=ih (by omega);obtain ⟨x,hd,hc⟩:=hel' r (by omega);refine ⟨xs ++ [x],by simp [h1],λz hz=>?_,λi y hy=>?_⟩
     . rcases List.mem_append.1 hz with hz | hz
       . obtain ⟨d,hd1,hd2⟩:=h3 z hz;exact ⟨d,by rw [List.range_succ,List.map_append];exact List.mem_append_left _ hd1,hd2⟩
       . rw [List.mem_singleton] at hz;subst hz;exact ⟨D r,by rw [List.range_succ,List.map_append];simp,hd⟩
     . rcases Nat.lt_or_ge i xs.length with hlt | hge
       . rw [List.getElem?_append_left hlt] at hy;exact h4 i y hy
       . have:i=xs.length:=by
          have:=(List.getElem?_eq_some_iff.1 hy).1;simp at this;omega
         subst this;simp at hy;subst hy;rw [h1];exact hc
   obtain ⟨xs,h1,h3,h4⟩:=hxs len' hl;subst h1;refine ⟨some a,xs,m,hcs,hl,by unfold maxLen at hm;omega,λhne=>?_,.inr ⟨_,_,by rw [hx],by simp,h3⟩⟩;have h0:0 < xs.length:=List.length_pos_iff.2 hne;have hen:0 < (en xs[0]).length:=by rw [he.len];exact he.pos
   have hc0:=h4 0 xs[0] (gE h0) 0 _ (gE hen);have hsp:a.spot=none:=by
    cases hs:a.spot with
    | none=>rfl
    | some q=>
     simp [World.cell?,Addr.add,hs] at hc0;split at hc0 <;> simp at hc0
   obtain ⟨b,o,sp⟩:=a;simp only at hsp;subst hsp;simp only [Vs] at h4 hc0;refine ⟨b,o,rfl,World.block_lt_of_cell? W _ hc0,λi x hx j u hu=>?_⟩;rw [Nat.add_assoc];exact h4 i x hx j u hu
theorem Zi5 {α:Type}{en:α->List Value}{k:Nat}{R:α->DataW H->Prop}{t e:TypeId}(ht:Tryz.prog.underlying t=some (.slice e))(ce:Tryz.prog.cellsOf e=k)(he:Kh en k)
 (hel:∀n cs y,DataW.trod enc Tryz.prog W 0 (λ_=>true) true n e cs=some y->∃x,cs=en x/\R x y.1) {fuel:Nat} {cs:List Value} {y:DataW H × List MemPlace}
 (hf:DataW.trod enc Tryz.prog W 0 (λ_=>true) true fuel t cs=some y) :
 ∃(A:Option Addr) (xs:List α) (c:Nat),cs = [.slice A xs.length c]/\xs.length<=c/\c<=9223372036854775807/\SlG en k W W.heap.size A xs/\(xs = []\/∃sp ds,y.1=.slice ds sp/\∀x∈xs,∃d∈ds,R x d):=by
 obtain ⟨A,xs,c,h1,h2,h3,h4,h5⟩:=Zv8 (R:=R) ht ce he hel hf;exact ⟨A,xs,c,h1,h2,h3,h4,h5.imp id λ⟨sp,ds,h6,_,h7⟩=>⟨sp,ds,h6,h7⟩⟩
theorem Zaq {base:Nat}{spare:Nat->Bool}{held:Bool}{n:Nat}{cs:List Value}{y:DataW H × List MemPlace}(h:DataW.trod enc Tryz.prog W base spare held n 34 cs=some y) :
 ∃u:Ud,cs = [.string u.ty,.string u.id]/\y.1=Zkd u:=by
 obtain ⟨xs,m,_,hy,hlen,hxl,hf⟩:=DataW.trod_struct Tryz.underlying34 h;rw [Zaf] at hlen;match cs,hlen with
 | [c0,c1],_=>
  match xs,hxl with
  | [y0,y1],_=>
   have e0:DataW.trod enc Tryz.prog W base spare held m 9 (([c0,c1].drop 0).take (Tryz.prog.cellsOf 9))=some y0:=hf 0 _ rfl;have e1:DataW.trod enc Tryz.prog W base spare held m 9 (([c0,c1].drop 1).take (Tryz.prog.cellsOf 9))=some y1:=hf 1 _ rfl;simp only [Zck,List.drop_zero,List.drop_succ_cons,List.take_succ_cons,List.take_zero] at e0 e1;obtain ⟨a0,q0,r0,_⟩:=DataW.trod_string Tryz.underlying9 e0;obtain ⟨a1,q1,r1,_⟩:=DataW.trod_string Tryz.underlying9 e1;simp only [List.cons.injEq,and_true] at q0 q1;subst q0 q1 r0 r1;exact ⟨⟨a0,a1⟩,rfl,by rw [hy];rfl⟩
theorem Zdk {base:Nat}{spare:Nat->Bool}{held:Bool}{n:Nat}{cs:List Value}{y:DataW H × List MemPlace}(h:DataW.trod enc Tryz.prog W base spare held n 44 cs=some y) :
 ∃s:Sc,cs = [.int .i64 s.op,.string s.ty,.string s.uid.ty,.string s.uid.id]/\y.1=Zao s:=by
 obtain ⟨xs,m,_,hy,hlen,hxl,hf⟩:=DataW.trod_struct Tryz.underlying44 h;rw [Zgt] at hlen;match cs,hlen with
 | [c0,c1,c2,c3],_=>
  match xs,hxl with
  | [y0,y1,y2],_=>
   have e0:DataW.trod enc Tryz.prog W base spare held m 3 (([c0,c1,c2,c3].drop 0).take (Tryz.prog.cellsOf 3))=some y0:=hf 0 _ rfl;have e1:DataW.trod enc Tryz.prog W base spare held m 9 (([c0,c1,c2,c3].drop 1).take (Tryz.prog.cellsOf 9))=some y1:=hf 1 _ rfl;have e2:DataW.trod enc Tryz.prog W base spare held m 34 (([c0,c1,c2,c3].drop 2).take (Tryz.prog.cellsOf 34))=some y2:=hf 2 _ rfl;simp only [Zck,Zf9,Zaf,List.drop_zero,List.drop_succ_cons,List.take_succ_cons,List.take_zero] at e0 e1 e2;obtain ⟨a0,q0,r0,_⟩:=DataW.trod_int Tryz.underlying3 e0;obtain ⟨a1,q1,r1,_⟩:=DataW.trod_string Tryz.underlying9 e1;obtain ⟨u,q2,r2⟩:=Zaq e2;simp only [List.cons.injEq,and_true] at q0 q1 q2;obtain ⟨q2,q3⟩:=q2;subst q0 q1 q2 q3 r0 r1;exact ⟨⟨a0,a1,u⟩,rfl,by rw [hy];show DataW.agg [_,_,y2.1]=_;rw [r2];rfl⟩
theorem J3 {u:Ud}(h:∀n,n∈(Zkd u:DataW H).weights Tryz.prog 34->n<=reachBytes):Km u:=
 ⟨Xo (h _ (by simp [Zkd,Zkh,DataW.weights,Tryz.underlying34,DataW.weightsEach])),Xo (h _ (by simp [Zkd,Zkh,DataW.weights,Tryz.underlying34,DataW.weightsEach]))⟩
theorem Zdo {s:Sc}(h:∀n,n∈(Zao s:DataW H).weights Tryz.prog 44->n<=reachBytes):ScZ s:=
 ⟨Xo (h _ (by simp [Zao,Zkh,DataW.weights,Tryz.underlying44,DataW.weightsEach])),J3 (H:=H) λn hn=>h n (by simp only [Zao,DataW.weights,Tryz.underlying44];exact DataW.weights_mem_each (j:=2) (ts:=[3,9,34]) rfl rfl n hn)⟩
theorem Zqh {e:List Nd}{sp:List (DataW H)}(h:∀n,n∈(DataW.slice (e.map Zg3) sp:DataW H).weights Tryz.prog 22->n<=reachBytes):Y0 e:=λx hx=>by
 have hw:∀n,n∈(Zg3 x:DataW H).weights Tryz.prog 37->n<=reachBytes:=λn hn=>h n (Uq Tryz.underlying22 (List.mem_map_of_mem hx) hn);exact ⟨Xo (hw _ (by simp [Zg3,DataW.weights,Tryz.underlying37,DataW.weightsEach])),Xo (hw _ (by simp [Zg3,DataW.weights,Tryz.underlying37,DataW.weightsEach]))⟩
end
end Go.Proofs.YtpheiojmcafolaaGreatDoor
namespace Go.Proofs.YtpheiojmcafolaaGreatDoor
open Go.RowKit
structure En where
 u:Ud
 up:List Ud
 at_:List Nd
structure Rq where
 who:Ud
 act:Ud
 what:Ud
 ctx:List Nd
instance udDec:DecidableEq Ud:=λa b=>decidable_of_iff (a.ty=b.ty/\a.id=b.id) (by cases a;cases b;simp)
instance ndDec:DecidableEq Nd:=λa b=>decidable_of_iff (a.op=b.op/\a.n=b.n/\a.s=b.s/\a.t=b.t) (by cases a;cases b;simp)
def fnz (f:Nat->Int):Nat->Int
 | 0=>0
 | n+1=>if fnz f n≠0 then fnz f n else f n
theorem Zax {f:Nat->Int}:∀{n:Nat},(∀i,i < n->f i=0)->fnz f n=0
 | 0,_=>rfl
 | n+1,h=>by rw [fnz,Zax λi hi=>h i (by omega),if_neg (by simp)];exact h n (by omega)
theorem Zg8 {f:Nat->Int}{k:Nat}(h0:∀i,i < k->f i=0)(hk:f k≠0):∀{n:Nat},k < n->fnz f n=f k
 | n+1,hn=>by
  rw [fnz];rcases Nat.lt_or_ge k n with h | h
  . rw [Zg8 h0 hk h,if_pos hk]
  . have:k=n:=(by omega);subst this;rw [Zax h0,if_neg (by simp)]
theorem Zbr {f:Nat->Int}:∀{n:Nat},fnz f n=0->∀i,i < n->f i=0
 | n+1,h,i,hi=>by
  rw [fnz] at h;by_cases h1:fnz f n=0
  . rw [if_neg (by simp [h1])] at h;rcases Nat.lt_or_ge i n with h2 | h2
    . exact Zbr h1 i h2
    . have:i=n:=(by omega);rw [this];exact h
  . rw [if_pos h1] at h;exact absurd h h1
def opH (v:List Nd):Int:=match v with | []=>0 | x :: _=>x.op
def nH (v:List Nd):Int:=match v with | []=>0 | x :: _=>x.n
def Znc (ups:List Ud)(i:Nat):Int:=match ups[i]? with
 | none=>0
 | some p=>if Zw p≠0 then Zw p else if p∈ups.take i then 6 else 0
def Ur (ups:List Ud):Int:=fnz (Znc ups) ups.length
def Vu (e:En):Int:=if 6 < e.up.length then 4 else if Ur e.up≠0 then Ur e.up else if Zb e.at_≠0 then Zb e.at_ else if opH e.at_=6 then 0 else 2
def Uj (es:List En)(i:Nat):Int:=match es[i]? with
 | none=>0
 | some e=>if Zw e.u≠0 then Zw e.u else if e.u∈(es.take i).map En.u then 6 else Vu e
def Zc2 (es:List En)(u:Ud):List Ud:=match es.find? (λe=>decide (e.u=u)) with
 | none=>[]
 | some e=>e.up
def abv (es:List En):Nat->Ud->List Ud->List Ud
 | 0,_,met=>met
 | k+1,u,met=>(Zc2 es u).foldl (λm p=>if p∈m then m else abv es k p (m ++ [p])) met
def Zr6 (es:List En):Bool:=es.any λe=>decide (e.u∈abv es 100 e.u [])
def Ym (es:List En):Int:=if 16 < es.length then 4 else if fnz (Uj es) es.length≠0 then fnz (Uj es) es.length else if Zr6 es=true then 7 else 0
def inB (es:List En)(a b:Ud):Bool:=decide (b∈abv es 100 a [a])
def Vr (q:Rq):Int:=if Zw q.who≠0 then Zw q.who else if Zw q.act≠0 then Zw q.act else if Zw q.what≠0 then Zw q.what else if Zb q.ctx≠0 then Zb q.ctx else if opH q.ctx=6 then 0 else 2
inductive Rs (α:Type) where
 | ok (v:α)
 | bad (k:Int)
def Rs.bind {α β:Type}(r:Rs α)(f:α->Rs β):Rs β:=match r with
 | .ok v=>f v
 | .bad k=>.bad k
def bN (b:Bool):Nd:=⟨1,if b=true then 1 else 0,⟨#[]⟩,⟨#[]⟩⟩
def nN (n:Int):Nd:=⟨2,n,⟨#[]⟩,⟨#[]⟩⟩
def eN (u:Ud):Nd:=⟨4,0,u.ty,u.id⟩
def udH (v:List Nd):Ud:=match v with | []=>⟨⟨#[]⟩,⟨#[]⟩⟩ | x :: _=>⟨x.s,x.t⟩
def sH (v:List Nd):ByteArray:=match v with | []=>⟨#[]⟩ | x :: _=>x.s
def Vi (r:Rs (List Nd))(op:Int):Rs (List Nd):=r.bind λv=>if opH v=op then .ok v else .bad 2
def inR (n:Int):Bool:=decide (-9223372036854775808<=n) && decide (n<=9223372036854775807)
def numR (op a b:Int):Rs Int:=
 if op=17 then (if inR (a+b)=true then .ok (a+b) else .bad 5)
 else if op=18 then (if inR (a - b)=true then .ok (a - b) else .bad 5)
 else if op=19 then (if inR (a*b)=true then .ok (a*b) else .bad 5)
 else .bad 1
def Xv:List UInt8->List (Option UInt8)
 | []=>[]
 | 42 :: r=>none :: Xv r
 | 92 :: 42 :: r=>some 42 :: Xv r
 | c :: r=>some c :: Xv r
def Y7:List (Option UInt8)->List UInt8->Bool
 | [],[]=>true
 | [],_ :: _=>false
 | none :: p,[]=>Y7 p []
 | none :: p,c :: s=>Y7 p (c :: s) || Y7 (none :: p) s
 | some _ :: _,[]=>false
 | some b :: p,c :: s=>b==c && Y7 p s
 termination_by p s=>p.length+s.length
def likeR (p s:List UInt8):Rs Bool:=if Yi p≠0 then .bad (Yi p) else if Yi s≠0 then .bad (Yi s) else .ok (Y7 (Xv p) s)
def Z8 (v:List Nd):List (List Nd):=Va v.tail.length v.tail
def Kq (v:List Nd):Rs (List (List Nd)):=if Zb v≠0 then .bad (Zb v) else if opH v=5 then .ok (Z8 v) else if opH v=6 then .ok ((Z8 v).map List.tail) else .bad 2
def Js (v:List Nd)(s:ByteArray):Rs (List Nd):=
 if Zb v≠0 then .bad (Zb v) else if opH v=6 then
  (match (Z8 v).find? (λp=>decide (sH p=s)) with
   | some p=>.ok p.tail
   | none=>.bad 3)
 else .bad 2
def Jz:List (ByteArray × List Nd)->List (List UInt8)->Int
 | [],_=>0
 | (s,v) :: r,met=>if Zf s.toList≠0 then Zf s.toList else if s.toList∈met then 6 else if Zb v≠0 then Zb v else Jz r (met ++ [s.toList])
def Yx (fs:List (ByteArray × List Nd)):List Nd:=⟨6,fs.length,⟨#[]⟩,⟨#[]⟩⟩ :: (Xp (fs.map λf=>⟨7,0,f.1,⟨#[]⟩⟩ :: f.2)).flatten
def Ky (fs:List (ByteArray × List Nd)):Rs (List Nd):=if Jz fs []≠0 then .bad (Jz fs []) else if 200 < (Yx fs).length then .bad 4 else .ok (Yx fs)
def Qc (vs:List (List Nd)):Rs (List Nd):=if (V7 vs).2≠0 then .bad (V7 vs).2 else .ok (V7 vs).1
def J1 (s v:List Nd):Rs Bool:=if Zb s≠0 then .bad (Zb s) else if Zb v≠0 then .bad (Zb v) else if opH s=5 then .ok ((Z8 s).any λp=>decide (p=v)) else .bad 2
def Zan (f:List (List Nd)->List (List Nd)->Bool)(s t:List Nd):Rs Bool:=if Zb s≠0 then .bad (Zb s) else if Zb t≠0 then .bad (Zb t) else if opH s=5/\opH t=5 then .ok (f (Z8 s) (Z8 t)) else .bad 2
def Zeb (s t:List Nd):Rs Bool:=Zan (λa b=>b.all λp=>decide (p∈a)) s t
def Zee (s t:List Nd):Rs Bool:=Zan (λa b=>b.any λp=>decide (p∈a)) s t
def Xm (op:Int)(ra rb:Rs (List Nd)):Rs (List Nd):=(Vi ra 1).bind λa=>if (nH a==1)=(op==12) then .ok a else Vi rb 1
def Vm (rc ra rb:Rs (List Nd)):Rs (List Nd):=(Vi rc 1).bind λc=>if nH c=1 then ra else rb
def K8 (es:List En)(v:List Nd):Rs (Option (List Nd)):=
 if opH v=6 then .ok (some v) else if opH v=4 then .ok ((es.find? λe=>decide (e.u=udH v)).map En.at_) else .bad 2
def Yc (es:List En)(x:Nd)(v:List Nd):Rs (List Nd):=
 if x.op=9 then (Vi (.ok v) 1).bind λv=>.ok [bN (nH v==0)]
 else if x.op=10 then (Vi (.ok v) 2).bind λv=>(numR 18 0 (nH v)).bind λn=>.ok [nN n]
 else if x.op=23 then (Vi (.ok v) 3).bind λv=>(likeR x.s.toList (sH v).toList).bind λb=>.ok [bN b]
 else if x.op=24 then (Vi (.ok v) 4).bind λv=>.ok [bN (decide (sH v=x.s))]
 else (K8 es v).bind λr=>match r with
  | none=>if x.op=21 then .ok [bN false] else .bad 8
  | some r=>if x.op=21 then (match Js r x.s with | .ok _=>.ok [bN true] | .bad _=>.ok [bN false]) else Js r x.s
def Zp2 (es:List En)(a b:List Nd):Rs Bool:=
 (Vi (.ok a) 4).bind λa=>(if opH b=5 then Kq b else .ok [b]).bind λtops=>if tops.all (λt=>opH t==4)=true then .ok (tops.any λt=>inB es (udH a) (udH t)) else .bad 2
def Yn (es:List En)(op:Int)(a b:List Nd):Rs (List Nd):=
 if op=14 then .ok [bN (decide (a=b))]
 else if op=20 then (Zp2 es a b).bind λr=>.ok [bN r]
 else if op=25 then (J1 a b).bind λr=>.ok [bN r]
 else if op=26 then (Zeb a b).bind λr=>.ok [bN r]
 else if op=27 then (Zee a b).bind λr=>.ok [bN r]
 else (Vi (.ok a) 2).bind λa=>(Vi (.ok b) 2).bind λb=>
  if op=15 then .ok [bN (decide (nH a < nH b))] else if op=16 then .ok [bN (decide (nH a<=nH b))] else (numR op (nH a) (nH b)).bind λn=>.ok [nN n]
def Jf (q:Rq)(s:List UInt8):Rs (List Nd):=
 if s = [112,114,105,110,99,105,112,97,108] then .ok [eN q.who] else if s = [97,99,116,105,111,110] then .ok [eN q.act]
 else if s = [114,101,115,111,117,114,99,101] then .ok [eN q.what] else if s = [99,111,110,116,101,120,116] then .ok q.ctx else .bad 3
def Uo {α:Type}:List (Rs α)->Rs (List α)
 | []=>.ok []
 | r :: rs=>r.bind λv=>(Uo rs).bind λvs=>.ok (v :: vs)
def evE (es:List En)(q:Rq):Nat->List Nd->Rs (List Nd)
 | 0,_=>.bad 0
 | _+1,[]=>.bad 0
 | k+1,x :: body=>
  if x.op=1\/x.op=2\/x.op=3\/x.op=4 then .ok [x]
  else if x.op=8 then Jf q x.s.toList
  else match x.op==5,x.op==6,Va body.length body with
   | true,_,ps=>(Uo (ps.map (evE es q k))).bind Qc
   | _,true,ps=>(Uo (ps.map λp=>evE es q k p.tail)).bind λvs=>Ky ((ps.map sH).zip vs)
   | _,_,[a]=>(evE es q k a).bind λv=>Yc es x v
   | _,_,[a,b]=>if x.op=11\/x.op=12 then Xm x.op (evE es q k a) (evE es q k b) else (evE es q k a).bind λu=>(evE es q k b).bind λv=>Yn es x.op u v
   | _,_,[c,a,b]=>Vm (evE es q k c) (evE es q k a) (evE es q k b)
   | _,_,_=>.bad 0
def Jd (es:List En)(q:Rq)(e:List Nd):Rs (List Nd):=
 if Ym es≠0 then .bad (Ym es) else if Vr q≠0 then .bad (Vr q) else if Zo e≠0 then .bad (Zo e) else evE es q e.length e
end Go.Proofs.YtpheiojmcafolaaGreatDoor
namespace Go.Proofs.YtpheiojmcafolaaGreatDoor
open Go.RowKit Go.Sort Go.Maps
def udC (u:Ud):List Value:=[.string u.ty,.string u.id]
theorem Zsj:Kh udC 2:=⟨λ_=>rfl,by omega,λx u hu=>by
 simp only [udC,List.mem_cons,List.not_mem_nil,or_false] at hu;rcases hu with rfl | rfl <;> rfl⟩
abbrev Zxf:=SlG udC 2
def udV (u:Ud):Value:=.agg #[.string u.ty,.string u.id]
theorem Zm0:Tryz.prog.keyType 34=true:=by kernel_rfl
theorem Zey:Tryz.prog.cellsOf 34=2:=by kernel_rfl
theorem Zlg:Tryz.prog.cellsOf 9=1:=by kernel_rfl
theorem Z2p:(match Tryz.prog.underlying 34 with | some (.array _ _) | some (.struct _)=>true | _=>false)=true:=by rw [Tryz.underlying34]
theorem Z3e:laidOutB Tryz.prog=true:=by kernel_rfl
theorem Zt9:1<=Tryz.prog.types.size:=of_decide_eq_true (by kernel_rfl)
theorem Qu:Maps.Keyed Tryz.prog 34:=Maps.Keyed.of_law (deep_law_gate Z3e (of_decide_eq_true (by kernel_rfl)) (of_decide_eq_true (by kernel_rfl)) Zm0 Z2p)
structure Za2 (u:Ud):Prop where
 ty:u.ty.size<=maxLen
 id:u.id.size<=maxLen
theorem Zpl {P:Program}{d t:Nat}{s:ByteArray}(hu:P.underlying t=some .string)(hl:s.size<=maxLen):P.keyLits (d+1) t [.string s]=some [.string s.data.toList]:=by
 simp [Program.keyLits,hu,hl]
theorem Zzl {c:Ud}(h:Za2 c):∃l,keyOf Tryz.prog 34 (udV c)=some l:=by
 obtain ⟨m,hm⟩:∃m,Tryz.prog.types.size+1=m+1+1:=⟨Tryz.prog.types.size - 1,by have:=Zt9;omega⟩;have f:(udV c).formed Tryz.prog 34=true:=by simp [udV,Value.formed,Tryz.underlying34,Zey]
 have e1:=Zpl (P:=Tryz.prog) (d:=m) (t:=9) Tryz.underlying9 h.ty;have e2:=Zpl (P:=Tryz.prog) (d:=m) (t:=9) Tryz.underlying9 h.id;unfold keyOf;rw [Tryz.underlying34];simp only [Zm0,f,Bool.and_self,if_true,hm];unfold Program.keyLits;rw [Tryz.underlying34];simp [Zey,Zlg,udV,Value.cells,e1,e2]
noncomputable def udK (c:Ud):Lit:=(keyOf Tryz.prog 34 (udV c)).getD (.bool true)
theorem Q0 {c:Ud}(h:Za2 c):keyOf Tryz.prog 34 (udV c)=some (udK c):=by
 obtain ⟨l,hl⟩:=Zzl h;unfold udK;rw [hl];rfl
theorem Zm3 {c d:Ud}(hc:Za2 c)(hd:Za2 d)(e:udK c=udK d):c=d:=by
 have h1:=Q0 hc;have h2:=Q0 hd;rw [<-e] at h2;have:=Qu.inj h1 h2;cases c;cases d
 simp [udV] at this;obtain ⟨rfl,rfl⟩:=this;rfl
end Go.Proofs.YtpheiojmcafolaaGreatDoor
namespace Go.Proofs.YtpheiojmcafolaaGreatDoor
open Go.RowKit
structure Eh where
 u:Ud
 ua:Option Addr
 un:Nat
 uc:Nat
 aa:Option Addr
 an:Nat
 ac:Nat
def ehC (e:Eh):List Value:=[.string e.u.ty,.string e.u.id,.slice e.ua e.un e.uc,.slice e.aa e.an e.ac]
theorem Zju:Kh ehC 4:=⟨λ_=>rfl,by omega,λx u hu=>by
 simp only [ehC,List.mem_cons,List.not_mem_nil,or_false] at hu;rcases hu with rfl | rfl | rfl | rfl <;> rfl⟩
abbrev Zz8:=SlG ehC 4
structure Zph (w:World)(B:Nat)(h:Eh)(e:En):Prop where
 u:h.u=e.u
 un:h.un=e.up.length
 uc:h.un<=h.uc/\h.uc<=9223372036854775807
 up:Zxf w B h.ua e.up
 an:h.an=e.at_.length
 ac:h.an<=h.ac/\h.ac<=9223372036854775807
 at_:Ye w B h.aa e.at_
theorem Zph.below {w w':World}{B:Nat}{h:Eh}{e:En}(k:Zph w B h e)(hb:Below B w w'):Zph w' B h e:=
 ⟨k.u,k.un,k.uc,k.up.below hb,k.an,k.ac,k.at_.below hb⟩
theorem Zph.more {w:World}{B B':Nat}{h:Eh}{e:En}(k:Zph w B h e)(hb:B<=B'):Zph w B' h e:=
 ⟨k.u,k.un,k.uc,k.up.more hb,k.an,k.ac,k.at_.more hb⟩
structure Ens (w:World)(B:Nat)(hs:List Eh)(es:List En):Prop where
 len:hs.length=es.length
 at_:∀(i:Nat) (h:Eh) (e:En),hs[i]? = some h->es[i]? = some e->Zph w B h e
theorem Ens.below {w w':World}{B:Nat}{hs:List Eh}{es:List En}(k:Ens w B hs es)(hb:Below B w w'):Ens w' B hs es:=
 ⟨k.len,λi h e h1 h2=>(k.at_ i h e h1 h2).below hb⟩
theorem Ens.more {w:World}{B B':Nat}{hs:List Eh}{es:List En}(k:Ens w B hs es)(hb:B<=B'):Ens w B' hs es:=
 ⟨k.len,λi h e h1 h2=>(k.at_ i h e h1 h2).more hb⟩
end Go.Proofs.YtpheiojmcafolaaGreatDoor
namespace Go.Proofs.YtpheiojmcafolaaGreatDoor
def unm (es:List En)(met:List Ud):Nat:=((es.flatMap En.up).filter λp=>decide (p ∉ met)).length
theorem Qs {α:Type}(p q:α->Bool):∀l:List α,(∀x∈l,p x=true->q x=true)->(l.filter p).length<=(l.filter q).length
 | [],_=>by simp
 | x :: l,h=>by
  have ih:=Qs p q l λy hy=>h y (by simp [hy]);have hx:=h x (by simp);cases hp:p x <;> cases hq:q x <;> simp [hp,hq]
  . exact ih
  . omega
  . rw [hp,hq] at hx;exact absurd (hx rfl) (by simp)
  . exact ih
theorem Zc5 {α:Type}(p q:α->Bool):∀l:List α,(∀x∈l,p x=true->q x=true)->∀x∈l,p x=false->q x=true->(l.filter p).length < (l.filter q).length
 | y :: l,h,x,hx,hp,hq=>by
  have h':=λz (hz:z∈l)=>h z (by simp [hz]);rcases List.mem_cons.1 hx with rfl | hx
  . have:=Qs p q l h';simp [hp,hq];omega
  . have ih:=Zc5 p q l h' x hx hp hq;have hy:=h y (by simp);cases hpy:p y <;> cases hqy:q y <;> simp [hpy,hqy]
    . exact ih
    . omega
    . rw [hpy,hqy] at hy;exact absurd (hy rfl) (by simp)
    . exact ih
theorem Z4r {es:List En}{m m':List Ud}(h:∀x∈m,x∈m'):unm es m'<=unm es m:=
 Qs _ _ _ λx _ hx=>by simp only [decide_eq_true_eq] at hx ⊢;exact λhm=>hx (h x hm)
theorem Zsl {es:List En}{m:List Ud}{p:Ud}(hp:p∈es.flatMap En.up)(hm:p ∉ m):unm es (m ++ [p]) < unm es m:=
 Zc5 _ _ _ (λx _ hx=>by simp only [decide_eq_true_eq,List.mem_append,not_or] at hx ⊢;exact hx.1) p hp (by simp) (by simpa using hm)
theorem Zpc {es:List En}{u p:Ud}(h:p∈Zc2 es u):p∈es.flatMap En.up:=by
 unfold Zc2 at h;split at h
 . simp at h
 . rename_i e he;exact List.mem_flatMap.2 ⟨e,List.mem_of_find?_eq_some he,h⟩
theorem Zle {es:List En}(h16:es.length<=16)(h6:∀e∈es,e.up.length<=6)(m:List Ud):unm es m<=96:=by
 unfold unm;refine Nat.le_trans (List.length_filter_le _ _) ?_;have:∀l:List En,(∀e∈l,e.up.length<=6)->(l.flatMap En.up).length<=6*l.length:=by
  intro l;induction l with
  | nil=>simp
  | cons e r ih=>
   intro h;have h1:=h e (by simp);have h2:=ih λx hx=>h x (by simp [hx]);rw [List.flatMap_cons,List.length_append,List.length_cons];omega
 have:=this es h6;omega
def Zbd (es:List En)(k:Nat)(m:List Ud)(ps:List Ud):List Ud:=ps.foldl (λm p=>if p∈m then m else abv es k p (m ++ [p])) m
theorem Zi1 (es:List En)(k:Nat)(u:Ud)(met:List Ud):abv es (k+1) u met=Zbd es k met (Zc2 es u):=rfl
theorem Zwp (es:List En)(k:Nat)(m ps:List Ud)(p:Ud):Zbd es k m (ps ++ [p])=if p∈Zbd es k m ps then Zbd es k m ps else abv es k p (Zbd es k m ps ++ [p]):=by
 unfold Zbd;rw [List.foldl_append];rfl
theorem Zpr (es:List En):∀(k:Nat) (u:Ud) (m:List Ud),∀x∈m,x∈abv es k u m
 | 0,_,_,x,hx=>hx
 | k+1,u,m,x,hx=>by
  rw [Zi1];have:∀(ps m:List Ud),x∈m->x∈Zbd es k m ps:=by
   intro ps;induction ps with
   | nil=>intro m h;exact h
   | cons p r ih=>
    intro m h;show x∈Zbd es k (if p∈m then m else abv es k p (m ++ [p])) r;refine ih _ ?_;split
    . exact h
    . exact Zpr es k p _ x (by simp [h])
  exact this _ _ hx
theorem Zlo (es:List En)(k:Nat):∀(ps m:List Ud),∀x∈m,x∈Zbd es k m ps
 | [],m,x,h=>h
 | p :: r,m,x,h=>by
  show x∈Zbd es k (if p∈m then m else abv es k p (m ++ [p])) r;refine Zlo es k r _ x ?_;split
  . exact h
  . exact Zpr es k p _ x (by simp [h])
end Go.Proofs.YtpheiojmcafolaaGreatDoor
namespace Go.Proofs.YtpheiojmcafolaaGreatDoor
open Go.RowKit Go.Sort Go.Maps
theorem Zd0 {P:Program}{d t:Nat}{v:Value}{ls:List Lit}(hu:P.underlying t=some .string)(h:P.keyLits (d+1) t [v]=some ls):∃s,v=.string s/\s.size<=maxLen:=by
 unfold Program.keyLits at h;rw [hu] at h;cases v <;> simp at h
 exact ⟨_,rfl,h.1⟩
theorem Zs6 {v:Value}{l:Lit}(h:keyOf Tryz.prog 34 v=some l):∃u,v=udV u/\Za2 u/\l=udK u:=by
 suffices hs:∃u,v=udV u/\Za2 u by
  obtain ⟨u,rfl,hu⟩:=hs;refine ⟨u,rfl,hu,?_⟩;have:=Q0 hu;rw [this] at h;injection h with h
  exact h.symm
 obtain ⟨m,hm⟩:∃m,Tryz.prog.types.size+1=m+1+1:=⟨Tryz.prog.types.size - 1,by have:=Zt9;omega⟩;unfold keyOf at h;rw [Tryz.underlying34] at h;simp only [Zm0,Bool.true_and,hm] at h;split at h
 . rename_i hf;cases v with
   | agg cs=>
    have hc:cs.size=2:=by
     have:=hf;unfold Value.formed at this;rw [Tryz.underlying34] at this;simpa [Zey] using this
    obtain ⟨c0,c1,rfl⟩:∃c0 c1,cs=#[c0,c1]:=by
     obtain ⟨l⟩:=cs;match l,hc with
     | [c0,c1],_=>exact ⟨c0,c1,rfl⟩
    simp only [Option.map_eq_some_iff] at h;obtain ⟨ls,h,-⟩:=h;unfold Program.keyLits at h;rw [Tryz.underlying34] at h;simp [Zey,Zlg,Value.cells] at h;cases e0:Tryz.prog.keyLits (m+1) 9 [c0] with
    | none=>simp [e0] at h
    | some l0=>
     cases e1:Tryz.prog.keyLits (m+1) 9 [c1] with
     | none=>simp [e0,e1] at h
     | some l1=>
      obtain ⟨a,rfl,ha⟩:=Zd0 Tryz.underlying9 e0;obtain ⟨b,rfl,hb⟩:=Zd0 Tryz.underlying9 e1;exact ⟨⟨a,b⟩,rfl,ha,hb⟩
   | _=>simp [Value.formed,Tryz.underlying34] at hf
 . cases h
def Zxd (met:List Ud)(D:DataW Unit):Prop:=∀u,Za2 u->Maps.has D (udK u)=decide (u∈met)/\(u∈met->∀z,D.atKey (udK u) z=.lit (.int .i64 1))
theorem Zu8:Zxd [] (.map []:DataW Unit):=λu _=>⟨by simp [Maps.has],λh=>by simp at h⟩
theorem Zv9 {met:List Ud}{D:DataW Unit}(h:Zxd met D)(hD:Maps.IsMap D){u:Ud}(hu:Za2 u):Zxd (met ++ [u]) (D.put (udK u) (.lit (.int .i64 1))):=by
 intro d hd;by_cases e:d=u
 . subst e;rw [has_put_same hD (Qu.key (Q0 hd))];exact ⟨by simp,λ_ z=>atKey_put_same hD (Qu.key (Q0 hd)) _ _⟩
 . have hk:udK d≠udK u:=λhh=>e (Zm3 hd hu hh);rw [has_put_other hk];refine ⟨by rw [(h d hd).1];simp [e],λhm z=>?_⟩;rcases List.mem_append.1 hm with h' | h'
   . rw [atKey_put_other hk,(h d hd).2 h' z]
   . simp at h';exact absurd h' e
def Kg (w:World)(mb:Nat)(met:List Ud):Prop:=∃D,w.ownsMap Tryz.prog 34 (plainElem (H:=Unit) Tryz.prog 3) mb met.length D/\Zxd met D
theorem Kg.kept {w w':World}{mb:Nat}{met:List Ud}(h:Kg w mb met){row:Option Nat}(hg:w.grownBy w' row)(hne:some mb≠row):Kg w' mb met:=by
 obtain ⟨D,h1,h2⟩:=h;exact ⟨D,h1.kept hg hne,h2⟩
theorem Kg.lt {w:World}{mb:Nat}{met:List Ud}(h:Kg w mb met):mb < w.heap.size:=by
 obtain ⟨D,h1,_⟩:=h;exact h1.lt
theorem Zv7 (w:World):(zeroValue 3).run Tryz.prog w=.ok (.int .i64 0) w:=by kernel_rfl
theorem Zi9 {w:World}{mb:Nat}{met:List Ud}(h:Kg w mb met){u:Ud}(hu:Za2 u) :
 (Instr.lookup 118 (.map (some mb)) (.agg #[.string u.ty,.string u.id]) false).run Tryz.prog w=.ok (.int .i64 (if u∈met then 1 else 0)) w:=by
 obtain ⟨D,h1,h2⟩:=h;obtain ⟨c,hr,hat,_⟩:=h1.lookup_int Qu Tryz.underlying118 Tryz.underlying3 (Zv7 w) (Q0 hu);show (Instr.lookup 118 (.map (some mb)) (udV u) false).run Tryz.prog w=_;rw [hr];by_cases hm:u∈met
 . rw [(h2 u hu).2 hm] at hat;injection hat with e;injection e with _ e
   rw [if_pos hm,<-e]
 . rw [atKey_of_not_has (by rw [(h2 u hu).1];simpa using hm)] at hat;injection hat with e;injection e with _ e
   rw [if_neg hm,<-e]
theorem Zsw {w:World}{mb:Nat}{met:List Ud}(h:Kg w mb met){u:Ud}(hu:Za2 u)(hl:met.length<=1000) :
 ∃w',(Instr.mapUpdate 118 (.map (some mb)) (.agg #[.string u.ty,.string u.id]) (.int .i64 1)).run Tryz.prog w=.ok () w'/\Kg w' mb (met ++ [u])/\w.grownBy w' (some mb):=by
 obtain ⟨D,h1,h2⟩:=h;have hv:plainElem (H:=Unit) Tryz.prog 3 (.int .i64 1)=some (.lit (.int .i64 1),[]):=plainElem_int Tryz.underlying3 (by decide);obtain ⟨w',hr,h3,h4⟩:=h1.update Qu Tryz.underlying118 (by unfold maxLen;omega) (Q0 hu) hv;refine ⟨w',hr,⟨_,?_,Zv9 h2 h1.isMap hu⟩,h4⟩;rw [List.length_append];exact h3
def ehR (v:Value):Option (DataW Eh × List MemPlace):=match v with
 | .agg cs=>match cs.toList with
  | [.string a,.string b,.slice ua un uc,.slice aa an ac]=>some (.held ⟨⟨a,b⟩,ua,un,uc,aa,an,ac⟩,[])
  | _=>none
 | _=>none
def ehW (e:Eh):Value:=.agg #[.string e.u.ty,.string e.u.id,.slice e.ua e.un e.uc,.slice e.aa e.an e.ac]
theorem Zzv (e:Eh):ehR (ehW e)=some (.held e,[]):=rfl
theorem Zuc {v:Value}{z:DataW Eh × List MemPlace}(h:ehR v=some z):∃e,v=ehW e/\z=(.held e,[]):=by
 unfold ehR at h;split at h
 . rename_i cs;split at h
   . rename_i hcs;injection h with h
     refine ⟨_,?_,h.symm⟩;obtain ⟨l⟩:=cs;simp only at hcs;subst hcs;rfl
   . cases h
 . cases h
def Zw9 (hs:List Eh)(D:DataW Eh):Prop:=∀u,Za2 u->Maps.has D (udK u)=decide (u∈hs.map Eh.u)/\∀h,hs.find? (λe=>decide (e.u=u))=some h->∀z,D.atKey (udK u) z=.held h
theorem Zwu:Zw9 [] (.map []:DataW Eh):=λu _=>⟨by simp [Maps.has],λh hh=>by simp at hh⟩
theorem Zwa {hs:List Eh}{D:DataW Eh}(h:Zw9 hs D)(hD:Maps.IsMap D){e:Eh}(hu:Za2 e.u)(hn:e.u ∉ hs.map Eh.u):Zw9 (hs ++ [e]) (D.put (udK e.u) (.held e)):=by
 intro d hd;rw [List.map_append,List.find?_append];by_cases ee:d=e.u
 . subst ee;rw [has_put_same hD (Qu.key (Q0 hd))];refine ⟨by simp,λx hx z=>?_⟩;have h0:hs.find? (λx=>decide (x.u=e.u))=none:=by
    rw [List.find?_eq_none];intro y hy;have:e.u ∉ hs.map Eh.u:=hn;simp only [decide_eq_true_eq];intro hh;exact this (List.mem_map.2 ⟨y,hy,hh⟩)
   rw [h0] at hx;simp at hx;subst hx;exact atKey_put_same hD (Qu.key (Q0 hd)) _ _
 . have hk:udK d≠udK e.u:=λhh=>ee (Zm3 hd hu hh);rw [has_put_other hk];refine ⟨by rw [(h d hd).1];simp [ee],λx hx z=>?_⟩;have hx':hs.find? (λx=>decide (x.u=d))=some x:=by
    cases hf:hs.find? (λx=>decide (x.u=d)) with
    | some y=>rw [hf] at hx;simpa using hx
    | none=>
     rw [hf] at hx;have:¬e.u=d:=λhh=>ee hh.symm;simp [this] at hx
   rw [atKey_put_other hk,(h d hd).2 x hx' z]
def Zba (w:World)(sb:Nat)(hs:List Eh):Prop:=∃D,w.ownsMap Tryz.prog 34 ehR sb hs.length D/\Zw9 hs D
theorem Zba.kept {w w':World}{sb:Nat}{hs:List Eh}(h:Zba w sb hs){row:Option Nat}(hg:w.grownBy w' row)(hne:some sb≠row):Zba w' sb hs:=by
 obtain ⟨D,h1,h2⟩:=h;exact ⟨D,h1.kept hg hne,h2⟩
theorem Zba.lt {w:World}{sb:Nat}{hs:List Eh}(h:Zba w sb hs):sb < w.heap.size:=by
 obtain ⟨D,h1,_⟩:=h;exact h1.lt
def eh0:Eh:=⟨⟨⟨#[]⟩,⟨#[]⟩⟩,none,0,0,none,0,0⟩
theorem Zxl (w:World):(zeroValue 109).run Tryz.prog w=.ok (ehW eh0) w:=by kernel_rfl
def atU (hs:List Eh)(u:Ud):Eh:=(hs.find? (λe=>decide (e.u=u))).getD eh0
theorem Zyg {w:World}{sb:Nat}{hs:List Eh}(h:Zba w sb hs){u:Ud}(hu:Za2 u) :
 (Instr.lookup 116 (.map (some sb)) (.agg #[.string u.ty,.string u.id]) false).run Tryz.prog w=.ok (ehW (atU hs u)) w:=by
 obtain ⟨D,h1,h2⟩:=h;obtain ⟨v,ps,hr,hv⟩:=h1.lookup Qu Tryz.underlying116 (Zxl w) (Zzv eh0) (Q0 hu);show (Instr.lookup 116 (.map (some sb)) (udV u) false).run Tryz.prog w=_;obtain ⟨e,rfl,he⟩:=Zuc hv;rw [hr];simp only [Prod.mk.injEq] at he;unfold atU;cases hf:hs.find? (λe=>decide (e.u=u)) with
 | some x=>
  rw [(h2 u hu).2 x hf] at he;have:=he.1;injection this with this
  rw [this];rfl
 | none=>
  have hn:u ∉ hs.map Eh.u:=by
   intro hh;obtain ⟨y,hy,e⟩:=List.mem_map.1 hh;have:=List.find?_eq_none.1 hf y hy;simp [e] at this
  rw [atKey_of_not_has (by rw [(h2 u hu).1];simpa using hn)] at he;have:=he.1;injection this with this
  rw [<-this];rfl
theorem Z2m {w:World}{sb:Nat}{hs:List Eh}(h:Zba w sb hs){e:Eh}(hu:Za2 e.u)(hn:e.u ∉ hs.map Eh.u)(hl:hs.length<=1000) :
 ∃w',(Instr.mapUpdate 116 (.map (some sb)) (.agg #[.string e.u.ty,.string e.u.id]) (ehW e)).run Tryz.prog w=.ok () w'/\Zba w' sb (hs ++ [e])/\w.grownBy w' (some sb):=by
 obtain ⟨D,h1,h2⟩:=h;obtain ⟨w',hr,h3,h4⟩:=h1.update Qu Tryz.underlying116 (by unfold maxLen;omega) (Q0 hu) (Zzv e);refine ⟨w',hr,⟨_,?_,Zwa h2 h1.isMap hu hn⟩,h4⟩;rw [List.length_append];exact h3
theorem Zzh (w:World):Zba (w.alloc (.map #[] 0)) w.heap.size []:=⟨_,World.ownsMap_made _ _ _ _,Zwu⟩
theorem Zo7 (w:World):Kg (w.alloc (.map #[] 0)) w.heap.size []:=⟨_,World.ownsMap_made _ _ _ _,Zu8⟩
theorem Zty (es:List En):∀(k:Nat) (u:Ud) (m:List Ud),(abv es k u m).length+unm es (abv es k u m)<=m.length+unm es m
 | 0,_,_=>nL _
 | k+1,u,m=>by
  rw [Zi1];have key:∀ps:List Ud,(∀p∈ps,p∈es.flatMap En.up)->∀m:List Ud,(Zbd es k m ps).length+unm es (Zbd es k m ps)<=m.length+unm es m:=by
   intro ps;induction ps with
   | nil=>intro _ m;exact nL _
   | cons p ps ih=>
    intro hp m;have h1:=ih (λq hq=>hp q (by simp [hq])) (if p∈m then m else abv es k p (m ++ [p]));refine Nat.le_trans (by exact h1) ?_;split
    . exact nL _
    . rename_i hm;have h2:=Zty es k p (m ++ [p]);have h3:=Zsl (hp p (by simp)) hm;simp at h2;omega
  exact key _ (λp hp=>Zpc hp) m
theorem Ens.tail {w:World}{B:Nat}{h:Eh}{hs:List Eh}{e:En}{es:List En}(k:Ens w B (h :: hs) (e :: es)):Ens w B hs es:=
 ⟨by have:=k.len;simpa using this,λi x y hx hy=>k.at_ (i+1) x y (by simpa using hx) (by simpa using hy)⟩
theorem Z0m {w:World}{B:Nat}:∀{hs:List Eh} {es:List En},Ens w B hs es->∀u,(atU hs u).un=(Zc2 es u).length/\Zxf w B (atU hs u).ua (Zc2 es u)/\(atU hs u).un<=(atU hs u).uc/\(atU hs u).uc<=9223372036854775807
 | [],[],_,u=>⟨rfl,SlG.nil _ _ _,nL _,by simp [atU,eh0]⟩
 | [],_ :: _,h,_=>by have:=h.len;simp at this
 | _ :: _,[],h,_=>by have:=h.len;simp at this
 | x :: hs,e :: es,h,u=>by
  have h0:=h.at_ 0 x e rfl rfl;have ih:=Z0m h.tail u;by_cases hu:e.u=u
  . have e1:atU (x :: hs) u=x:=(by simp [atU,h0.u,hu]);have e2:Zc2 (e :: es) u=e.up:=(by simp [Zc2,hu]);rw [e1,e2];exact ⟨h0.un,h0.up,h0.uc.1,h0.uc.2⟩
  . have e1:atU (x :: hs) u=atU hs u:=(by simp [atU,h0.u,hu]);have e2:Zc2 (e :: es) u=Zc2 es u:=(by simp [Zc2,hu]);rw [e1,e2];exact ih
end Go.Proofs.YtpheiojmcafolaaGreatDoor
namespace Go.Proofs.YtpheiojmcafolaaGreatDoor
open Go.RowKit Go.Sort
theorem Zip (a b:ByteArray):a.toList=b.toList ↔ a=b:=by
 refine ⟨λh=>?_,λh=>by rw [h]⟩;rw [ByteArray.toList_eq,ByteArray.toList_eq] at h;exact ByteArray.ext (Array.toList_inj.1 h)
theorem Z0q (x y:Ud)(w:World):(Op.equalIn 10000 34 (.agg #[.string x.ty,.string x.id]) (.agg #[.string y.ty,.string y.id])).run Tryz.prog w=.ok (decide (x=y)) w:=by
 have u3:=Tryz.underlying9;have a3:=Tryz.isAgg9;have z3:=Tryz.sizeOf9;have hS:Tryz.prog.underlying 34=some (.struct (Tryz.prog.fieldsOf 34)):=by kernel_rfl
 have hp:Tryz.prog.stoodInHeld 34=false:=by kernel_rfl
 rw [show (10000:Nat)=9999+1 from rfl,run_equalIn_agg w 9999 34 _ _ hS hp];simp only [Program.fieldsOf,Tryz.underlying34];go_simp
 obtain ⟨a,l⟩:=x;obtain ⟨a',l'⟩:=y;by_cases h1:a=a' <;> by_cases h2:l=l' <;> simp [Zip,h1,h2]
theorem Zsi (x y:Ud)(w:World):(binOp .eql 34 (.agg #[.string x.ty,.string x.id]) (.agg #[.string y.ty,.string y.id])).run Tryz.prog w=.ok (.bool (decide (x=y))) w:=by
 rw [run_eql_struct,Z0q];rfl
theorem Zc6 {w:World}{B:Nat}{A:Option Addr}{xs:List Ud}(h:Zxf w B A xs){i:Nat}{x:Ud}(hx:xs[i]? = some x):∃b o,A=some ⟨b,o,none⟩/\b < B/\w.cell? ⟨b,o+i*2,none⟩=some (.string x.ty)/\w.cell? ⟨b,o+i*2+1,none⟩=some (.string x.id):=by
 obtain ⟨b,o,e,hb,hc⟩:=h.at_ (List.getElem?_eq_some_iff.1 hx).1;have:=hc i x hx;exact ⟨b,o,e,hb,this 0 _ rfl,this 1 _ rfl⟩
def Zsx (xs:List Ud)(x:Ud):Int:=if x∈xs then (xs.idxOf x:Int) else -1
theorem Z14 {xs:List Ud}{x y:Ud}{k:Nat}(hx:xs[k]? = some y)(hn:x ∉ xs.take k)(h:x=y):Zsx xs x=k:=by
 subst h;have hm:=mG hx;obtain ⟨hk,he⟩:=List.getElem?_eq_some_iff.1 hx;have e:xs=xs.take k++x :: xs.drop (k+1):=by rw [<-he,<-List.drop_eq_getElem_cons hk,List.take_append_drop]
 rw [Zsx,if_pos hm];have:xs.idxOf x=k:=by
  rw [e,List.idxOf_append,if_neg hn];simp;omega
 rw [this]
theorem Zxj (xs:List Ud)(x:Ud)(A:Option Addr)(c:Nat)(w:World)(hl:xs.length<=9223372036854775807)(hs:Zxf w w.heap.size A xs) :
 Calls Tryz.prog 128 #[.slice A xs.length c,.agg #[.string x.ty,.string x.id]] w λr w'=>r=.returned (.int .i64 (Zsx xs x))/\Below w.heap.size w w':=by
 have HS:=Ld hs;clear hs;go_enter Tryz.func128,Tryz.ntmps128
 go_wp2_with fail
 go_loopw [8] (λkk wr=>∃k:Nat,kk=.int .i64 k/\k<=xs.length/\Hid (x ∉ xs.take k)/\Below w.heap.size w wr/\wr.cell? ⟨w.heap.size,0,none⟩=some (.string x.ty)/\wr.cell? ⟨w.heap.size,1,none⟩=some (.string x.id)) (λkk _=>xs.length - (intOf kk).toNat)
 case atStart=>exact ⟨0,rfl,by omega,by simp [Hid],by (repeat (first | assumption | exact bR | apply bD | apply Za | refine bA ?_ _)),by simp [World.cell?_alloc_new],by simp [World.cell?_alloc_new]⟩
 case round=>
  obtain ⟨k,rfl,hk,HK,hbr,v0,v1⟩:=hrel;have hzr:=hbr.size;by_cases hlt:k < xs.length
  . obtain ⟨y,hy⟩:∃y,xs[k]? = some y:=⟨_,gE hlt⟩;obtain ⟨b1,o1,rfl,hb1,c0,c1⟩:=Zc6 (HS.out.below hbr) hy;have HX:=Ld hy;clear hy;have i1:0<=(k:Int):=(by omega);have i2:(k:Int) < (xs.length:Int):=(by omega);have heq:∀W,(binOp .eql 34 (.agg #[.string x.ty,.string x.id]) (.agg #[.string y.ty,.string y.id])).run Tryz.prog W=.ok (.bool (decide (x=y))) W:=λW=>Zsi x y W;have heq2:∀W,(Op.equalIn 10000 34 (.agg #[.string x.ty,.string x.id]) (.agg #[.string y.ty,.string y.id])).run Tryz.prog W=.ok (decide (x=y)) W:=λW=>Z0q x y W;by_cases hh:x=y
    . have hd:decide (x=y)=true:=(by simp [hh]);rw [hd] at heq heq2;have HH:=Ld hh;clear hh hd;go_wp2_with fail
      go_quiet (fail)
      go_wp2_with fail
      go_ret
      refine ⟨?_,Za hbr _⟩;rw [Z14 HX.out HK.out HH.out];rfl
    . have hd:decide (x=y)=false:=(by simp [hh]);rw [hd] at heq heq2;have HH:Hid (x ∉ xs.take (k+1)):=by
       show ¬_;rw [List.take_add_one,HX.out];have:=HK.out;simp [hh,this]
      clear hh hd;go_wp2_with fail
      go_quiet (fail)
      go_wp2_with fail
      exact ⟨⟨k+1,by go_num,by omega,HH,Za hbr _,by simpa using v0,by simpa using v1⟩,by simp [intOf];omega⟩
  . have HE:Hid (Zsx xs x = -1):=by
     have:=HK.out;rw [List.take_of_length_le (by omega)] at this;show _=_;simp [Zsx,this]
    go_wp2_with fail
    go_ret
    rw [HE.out];exact ⟨rfl,hbr⟩
theorem Zy4 {xs:List Ud}{x:Ud}:decide (0<=Zsx xs x)=decide (x∈xs):=by
 unfold Zsx;by_cases h:x∈xs <;> simp [h]
theorem Znq (xs:List Ud)(x:Ud)(A:Option Addr)(c:Nat)(w:World)(hl:xs.length<=9223372036854775807)(hs:Zxf w w.heap.size A xs) :
 Calls Tryz.prog 94 #[.slice A xs.length c,.agg #[.string x.ty,.string x.id]] w λr w'=>r=.returned (.bool (decide (x∈xs)))/\Below w.heap.size w w':=by
 have HB:Hid (Below w.heap.size w (w.alloc (.cells #[.string x.ty,.string x.id] 34))):=by show Below _ _ _;(repeat (first | assumption | exact bR | apply bD | apply Za | refine bA ?_ _))
 have HI:=Ld (Zxj xs x A c (w.alloc (.cells #[.string x.ty,.string x.id] 34)) hl (hs.later HB.out));have HK:=Ld (Zy4 (xs:=xs) (x:=x));clear hs;generalize Zsx xs x=v at HI HK;generalize decide (x∈xs)=q at HK ⊢;go_enter Tryz.func94,Tryz.ntmps94
 go_wp2_with fail
 refine HI.out.mono ?_;rintro r w1 ⟨rfl,hb1⟩;go_wp2_with fail
 go_ret
 exact ⟨Vj HK.out,HB.out.trans (hb1.mono HB.out.size)⟩
end Go.Proofs.YtpheiojmcafolaaGreatDoor
namespace Go.Proofs.YtpheiojmcafolaaGreatDoor
theorem Zm {α β:Type}{r:Rs α}{f:α->Rs β}{v:β}(h:r.bind f=.ok v):∃u,r=.ok u/\f u=.ok v:=by
 cases r with
 | ok u=>exact ⟨u,rfl,h⟩
 | bad k=>cases h
theorem Zc9 {r:Rs (List Nd)}{op:Int}{v:List Nd}(h:Vi r op=.ok v):r=.ok v/\opH v=op:=by
 obtain ⟨u,h1,h2⟩:=Zm h;split at h2
 . injection h2 with h2;subst h2;exact ⟨h1,by assumption⟩
 . cases h2
theorem Zfg {α:Type}:∀{rs:List (Rs α)} {vs:List α},Uo rs=.ok vs->vs.length=rs.length/\∀v∈vs,.ok v∈rs
 | [],vs,h=>by injection h with h;subst h;simp
 | r :: rs,vs,h=>by
  obtain ⟨v,h1,h2⟩:=Zm h;obtain ⟨us,h3,h4⟩:=Zm h2;injection h4 with h4
  subst h4;obtain ⟨i1,i2⟩:=Zfg h3;refine ⟨by simp [i1],λu hu=>?_⟩;rcases List.mem_cons.1 hu with rfl | hu
  . rw [h1];simp
  . exact List.mem_cons_of_mem _ (i2 u hu)
theorem Ze2:∀(k:Nat) (l p:List Nd),p∈Va k l->∀x∈p,x∈l
 | 0,l,p,h=>by simp [Va] at h
 | k+1,[],p,h=>by simp [Va] at h
 | k+1,y :: l,p,h=>by
  rw [Va] at h;split at h
  . rename_i j hj;rcases List.mem_cons.1 h with rfl | h
    . exact λx hx=>List.mem_of_mem_take hx
    . exact λx hx=>List.mem_of_mem_drop (Ze2 k _ p h x hx)
  . simp at h
def Zbl (v:List Nd):Prop:=v≠[]/\Y0 v
def UdZ (u:Ud):Prop:=u.ty.size<=140737488351232/\u.id.size<=140737488351232
theorem U9 (b:Bool):Zbl [bN b]:=⟨by simp,by intro x hx;simp at hx;subst hx;exact ⟨Nat.zero_le _,Nat.zero_le _⟩⟩
theorem Ztp (n:Int):Zbl [nN n]:=⟨by simp,by intro x hx;simp at hx;subst hx;exact ⟨Nat.zero_le _,Nat.zero_le _⟩⟩
theorem Zm2 {u:Ud}(h:UdZ u):Zbl [eN u]:=⟨by simp,by intro x hx;simp at hx;subst hx;exact h⟩
theorem Y0.sub {a b:List Nd}(h:Y0 b)(hs:∀x∈a,x∈b):Y0 a:=λx hx=>h x (hs x hx)
theorem Zn6 {vs:List (List Nd)}{v:List Nd}(hv:∀p∈vs,Y0 p)(h:Qc vs=.ok v):Zbl v:=by
 unfold Qc at h;split at h
 . cases h
 . rename_i hk;injection h with h
   subst h;unfold V7 at hk ⊢;split at hk
   . rename_i h1;exact absurd h1 hk
   . rename_i h1;rw [if_neg h1];split at hk
     . exact absurd (by decide) hk
     . rename_i h2;rw [if_neg h2];refine ⟨by simp [Yb],λx hx=>?_⟩;unfold Yb at hx;rcases List.mem_cons.1 hx with rfl | hx
       . exact ⟨Nat.zero_le _,Nat.zero_le _⟩
       . obtain ⟨p,hp,hxp⟩:=List.mem_flatten.1 hx;exact hv p (Xk hp) x hxp
theorem Zu9 {fs:List (ByteArray × List Nd)}{v:List Nd}(hs:∀f∈fs,f.1.size<=140737488351232)(hv:∀f∈fs,Y0 f.2)(h:Ky fs=.ok v):Zbl v:=by
 unfold Ky at h;split at h
 . cases h
 . split at h
   . cases h
   . injection h with h
     subst h;refine ⟨by simp [Yx],λx hx=>?_⟩;unfold Yx at hx;rcases List.mem_cons.1 hx with rfl | hx
     . exact ⟨Nat.zero_le _,Nat.zero_le _⟩
     . obtain ⟨p,hp,hxp⟩:=List.mem_flatten.1 hx;have hp':=(Zn _).mem_iff.1 hp;obtain ⟨f,hf,rfl⟩:=List.mem_map.1 hp';rcases List.mem_cons.1 hxp with rfl | hxp
       . exact ⟨hs f hf,Nat.zero_le _⟩
       . exact hv f hf x hxp
theorem Zaz {v:List Nd}(h:Zb v=0)(h6:opH v=6):∀p∈Z8 v,∃f u,p=f :: u/\f.op=7/\Vx u:=by
 have hv:=((Z0 v).1 h).2;cases hv with
 | leaf n hs h5 h6' h7=>exact absurd h6 h6'
 | set n ps hs h5=>have:n.op=6:=h6;omega
 | rcd n ps hs h6' hn h1 h2 h3 hc=>
  intro p hp;have hk:Z8 (n :: ps.flatten)=ps:=Xr ps (λp hp=>by
   obtain ⟨f,u,rfl⟩:=h1 p hp;exact ⟨true,Zbm (h2 f u hp).1 (h2 f u hp).2 (Vf (h3 f u hp))⟩) _ (nL _)
  rw [hk] at hp;obtain ⟨f,u,rfl⟩:=h1 p hp;exact ⟨f,u,rfl,(h2 f u hp).1,h3 f u hp⟩
theorem Zmk {v:List Nd}(h:Zb v=0)(h5:opH v=5):∀p∈Z8 v,Vx p:=by
 have hv:=((Z0 v).1 h).2;cases hv with
 | leaf n hs h5' h6' h7=>exact absurd h5 h5'
 | rcd n ps hs h6=>have:n.op=5:=h5;omega
 | set n ps hs h5' hn hp hc=>
  intro p hpp;have hk:Z8 (n :: ps.flatten)=ps:=Xr ps (λp hp'=>⟨false,Vf (hp p hp')⟩) _ (nL _);rw [hk] at hpp;exact hp p hpp
theorem Z2r {v:List Nd}(h:Vx v)(hok:Y0 v):Zbl v:=by
 obtain ⟨x,r,e,_⟩:=h.ne;exact ⟨by rw [e];simp,hok⟩
theorem Zf1 {v p:List Nd}(h:p∈Z8 v):∀x∈p,x∈v:=λx hx=>List.mem_of_mem_tail (Ze2 _ _ p h x hx)
theorem Zvh {v w:List Nd}{s:ByteArray}(hv:Y0 v)(h:Js v s=.ok w):Zbl w:=by
 unfold Js at h;split at h
 . cases h
 . rename_i h0;have h0':Zb v=0:=Classical.not_not.1 h0;split at h
   . rename_i h6;split at h
     . rename_i p hp;injection h with h
       subst h;have hm:=List.mem_of_find?_eq_some hp;obtain ⟨f,u,rfl,_,hu⟩:=Zaz h0' h6 p hm;exact Z2r hu (hv.sub λx hx=>Zf1 hm x (List.mem_cons_of_mem _ hx))
     . cases h
   . cases h
structure EsG (es:List En):Prop where
 at_:∀e∈es,Zbl e.at_
 uz:∀e∈es,UdZ e.u
 pz:∀e∈es,∀p∈e.up,UdZ p
structure RqG (q:Rq):Prop where
 who:UdZ q.who
 act:UdZ q.act
 what:UdZ q.what
 ctx:Zbl q.ctx
theorem Zq2 {q:Rq}(hq:RqG q){s:List UInt8}{v:List Nd}(h:Jf q s=.ok v):Zbl v:=by
 unfold Jf at h;split at h
 . injection h with h;subst h;exact Zm2 hq.who
 . split at h
   . injection h with h;subst h;exact Zm2 hq.act
   . split at h
     . injection h with h;subst h;exact Zm2 hq.what
     . split at h
       . injection h with h;subst h;exact hq.ctx
       . cases h
theorem Zoj {es:List En}(hes:EsG es){x:Nd}{v w:List Nd}(hv:Zbl v)(h:Yc es x v=.ok w):Zbl w:=by
 unfold Yc at h;split at h
 . obtain ⟨u,_,h2⟩:=Zm h;injection h2 with h2;subst h2;exact U9 _
 . split at h
   . obtain ⟨u,_,h2⟩:=Zm h;obtain ⟨n,_,h3⟩:=Zm h2;injection h3 with h3;subst h3;exact Ztp _
   . split at h
     . obtain ⟨u,_,h2⟩:=Zm h;obtain ⟨n,_,h3⟩:=Zm h2;injection h3 with h3;subst h3;exact U9 _
     . split at h
       . obtain ⟨u,_,h2⟩:=Zm h;injection h2 with h2;subst h2;exact U9 _
       . obtain ⟨r,h1,h2⟩:=Zm h;cases r with
         | none=>
          simp only at h2;split at h2
          . injection h2 with h2;subst h2;exact U9 _
          . cases h2
         | some r=>
          simp only at h2;have hr:Y0 r:=by
           unfold K8 at h1;split at h1
           . injection h1 with h1;injection h1 with h1;subst h1;exact hv.2
           . split at h1
             . injection h1 with h1
               obtain ⟨e,he,h1⟩:=Option.map_eq_some_iff.1 h1;subst h1;exact (hes.at_ e (List.mem_of_find?_eq_some he)).2
             . cases h1
          split at h2
          . split at h2 <;> (injection h2 with h2;subst h2;exact U9 _)
          . exact Zvh hr h2
theorem Zog {es:List En}{op:Int}{a b w:List Nd}(h:Yn es op a b=.ok w):Zbl w:=by
 unfold Yn at h;split at h
 . injection h with h;subst h;exact U9 _
 . split at h
   . obtain ⟨u,_,h2⟩:=Zm h;injection h2 with h2;subst h2;exact U9 _
   . split at h
     . obtain ⟨u,_,h2⟩:=Zm h;injection h2 with h2;subst h2;exact U9 _
     . split at h
       . obtain ⟨u,_,h2⟩:=Zm h;injection h2 with h2;subst h2;exact U9 _
       . split at h
         . obtain ⟨u,_,h2⟩:=Zm h;injection h2 with h2;subst h2;exact U9 _
         . obtain ⟨u,_,h2⟩:=Zm h;obtain ⟨u',_,h3⟩:=Zm h2;split at h3
           . injection h3 with h3;subst h3;exact U9 _
           . split at h3
             . injection h3 with h3;subst h3;exact U9 _
             . obtain ⟨n,_,h4⟩:=Zm h3;injection h4 with h4;subst h4;exact Ztp _
theorem Zp1 {es:List En}{q:Rq}(hes:EsG es)(hq:RqG q):∀(k:Nat) (xs:List Nd) {v:List Nd},Y0 xs->evE es q k xs=.ok v->Zbl v
 | 0,xs,v,_,h=>by cases h
 | k+1,[],v,_,h=>by cases h
 | k+1,x :: body,v,hx,h=>by
  have hxx:Y0 [x]:=hx.sub (by intro y hy;simp at hy;simp [hy]);have hb:Y0 body:=hx.sub λy hy=>List.mem_cons_of_mem _ hy;have hkid:∀p∈Va body.length body,Y0 p:=λp hp=>hb.sub (Ze2 _ _ p hp);have ih:=λp v (hp:Y0 p) (h:evE es q k p=.ok v)=>Zp1 hes hq k p hp h;rw [evE] at h;split at h
  . injection h with h;subst h;exact ⟨by simp,hxx⟩
  . split at h
    . exact Zq2 hq h
    . generalize Va body.length body=ps at h hkid;split at h
      . obtain ⟨vs,h1,h2⟩:=Zm h;refine Zn6 (λp hp=>?_) h2;obtain ⟨y,hy,e⟩:=List.mem_map.1 ((Zfg h1).2 p hp);exact (ih y p (hkid y hy) e).2
      . obtain ⟨vs,h1,h2⟩:=Zm h;refine Zu9 (λf hf=>?_) (λf hf=>?_) h2
        . have hm:=List.of_mem_zip hf;obtain ⟨p,hp,e⟩:=List.mem_map.1 hm.1;rw [<-e];cases p with
          | nil=>exact Nat.zero_le _
          | cons y r=>exact (hkid _ hp y (by simp)).1
        . have hm:=List.of_mem_zip hf;obtain ⟨y,hy,e⟩:=List.mem_map.1 ((Zfg h1).2 f.2 hm.2);exact (ih y.tail f.2 ((hkid y hy).sub λz hz=>List.mem_of_mem_tail hz) e).2
      . rename_i a h5' h6';obtain ⟨u,h1,h2⟩:=Zm h;exact Zoj hes (ih a u (hkid a (by simp)) h1) h2
      . rename_i a b h5' h6';split at h
        . unfold Xm at h;obtain ⟨u,h1,h2⟩:=Zm h;split at h2
          . injection h2 with h2;subst h2;exact ih a _ (hkid a (by simp)) (Zc9 h1).1
          . exact ih b v (hkid b (by simp)) (Zc9 h2).1
        . obtain ⟨u,h1,h2⟩:=Zm h;obtain ⟨u',h3,h4⟩:=Zm h2;exact Zog h4
      . rename_i c a b h5' h6';unfold Vm at h;obtain ⟨u,h1,h2⟩:=Zm h;split at h2
        . exact ih a v (hkid a (by simp)) h2
        . exact ih b v (hkid b (by simp)) h2
      . cases h
end Go.Proofs.YtpheiojmcafolaaGreatDoor
namespace Go.Proofs.YtpheiojmcafolaaGreatDoor
open Go.RowKit Go.Sort
structure Zxh (u:Ud)(b:Nat)(W:World):Prop where
 c0:W.cell? ⟨b,0,none⟩=some (.string u.ty)
 c1:W.cell? ⟨b,1,none⟩=some (.string u.id)
 lt:b < W.heap.size
theorem Zxh.later {u:Ud}{b:Nat}{W W':World}(h:Zxh u b W)(hb:RowKit.Below W.heap.size W W'):Zxh u b W':=
 ⟨(hb.cell (p:=⟨b,0,none⟩) h.lt).trans h.c0,(hb.cell (p:=⟨b,1,none⟩) h.lt).trans h.c1,Nat.lt_of_lt_of_le h.lt hb.size⟩
theorem Zqp (u:Ud)(h:Eh)(b:Nat)(w:World)(hc:Zxh u b w) :
 Calls Tryz.prog 59 #[.agg #[.string h.u.ty,.string h.u.id,.slice h.ua h.un h.uc,.slice h.aa h.an h.ac],.pointer (some ⟨b,0,none⟩)] w λr w'=>r=.returned (.bool (decide (h.u=u)))/\RowKit.Below w.heap.size w w':=by
 have HC:=Ld (hc.later (by (repeat (first | assumption | exact bR | apply bD | apply Za | refine bA ?_ _)):RowKit.Below w.heap.size w (w.alloc (.cells #[.string h.u.ty,.string h.u.id,.slice h.ua h.un h.uc,.slice h.aa h.an h.ac] 109))));clear hc;have c0:=HC.out.c0;have c1:=HC.out.c1;have heq:∀W,(binOp .eql 34 (.agg #[.string h.u.ty,.string h.u.id]) (.agg #[.string u.ty,.string u.id])).run Tryz.prog W=.ok (.bool (decide (h.u=u))) W:=λW=>Zsi h.u u W;generalize decide (h.u=u)=q at heq ⊢;go_enter Tryz.func59,Tryz.ntmps59
 go_wp2_with fail
 go_ret
 exact ⟨rfl,by (repeat (first | assumption | exact bR | apply bD | apply Za | refine bA ?_ _))⟩
def Zj4 (hs:List Eh)(u:Ud):Bool:=hs.any λh=>decide (h.u=u)
theorem Zuu {hs:List Eh}{u:Ud}{k:Nat}{x:Eh}(hx:hs[k]? = some x)(h:Zj4 (hs.take k) u=false)(hh:decide (x.u=u)=false):Zj4 (hs.take (k+1)) u=false:=by
 unfold Zj4 at h ⊢;rw [List.take_add_one,hx,List.any_append,h];simp [hh]
theorem Zzi {hs:List Eh}{u:Ud}{k:Nat}{x:Eh}(hx:hs[k]? = some x)(hh:decide (x.u=u)=true):Zj4 hs u=true:=List.any_eq_true.2 ⟨x,mG hx,hh⟩
theorem Zc7 {w:World}{B:Nat}{A:Option Addr}{xs:List Eh}(h:Zz8 w B A xs){i:Nat}{x:Eh}(hx:xs[i]? = some x):∃b o,A=some ⟨b,o,none⟩/\b < B/\w.cell? ⟨b,o+i*4,none⟩=some (.string x.u.ty)/\w.cell? ⟨b,o+i*4+1,none⟩=some (.string x.u.id) /\
 w.cell? ⟨b,o+i*4+2,none⟩=some (.slice x.ua x.un x.uc)/\w.cell? ⟨b,o+i*4+3,none⟩=some (.slice x.aa x.an x.ac):=by
 obtain ⟨b,o,e,hb,hc⟩:=h.at_ (List.getElem?_eq_some_iff.1 hx).1;have:=hc i x hx;exact ⟨b,o,e,hb,this 0 _ rfl,this 1 _ rfl,this 2 _ rfl,this 3 _ rfl⟩
theorem Zwe (u:Ud)(hs:List Eh)(A:Option Addr)(c b:Nat)(w:World)(hc:Zxh u b w)(hl:hs.length<=9223372036854775807)(hsl:Zz8 w w.heap.size A hs) :
 Calls Tryz.prog 93 #[.slice A hs.length c,.func (.func 59) #[] #[.pointer (some ⟨b,0,none⟩)]] w λr w'=>(∃k:Int,r=.returned (.int .i64 k)/\decide (0<=k)=Zj4 hs u)/\RowKit.Below w.heap.size w w':=by
 have HM:=Ld hc;have HS:=Ld hsl;clear hc hsl;go_enter Tryz.func93,Tryz.ntmps93
 go_wp2_with fail
 go_loopw [8] (λkk wr=>∃k:Nat,kk=.int .i64 k/\k<=hs.length/\Hid (Zj4 (hs.take k) u=false)/\RowKit.Below w.heap.size w wr) (λkk _=>hs.length - (intOf kk).toNat)
 case atStart=>exact ⟨0,rfl,by omega,by simp [Hid,Zj4],RowKit.Below.refl _ _⟩
 case round=>
  obtain ⟨k,rfl,hk,HK,hbr⟩:=hrel;have hzr:=hbr.size;by_cases hlt:k < hs.length
  . obtain ⟨x,hx⟩:∃x,hs[k]? = some x:=⟨_,gE hlt⟩;obtain ⟨b1,o1,rfl,hb1,d0,d1,d2,d3⟩:=Zc7 (HS.out.below hbr) hx;have HX:=Ld hx;have HC:=Ld (Zqp u x b wr (HM.out.later hbr));clear hx;cases hh:decide (x.u=u) with
    | true=>
     have HH:=Ld hh;rw [hh] at HC;clear hh;go_wp2_with fail
     refine HC.out.mono ?_;rintro r w1 ⟨rfl,hb2⟩;have hw1:=hbr.trans (hb2.mono hbr.size);clear hb2 d0 d1 d2 d3;go_wp2_with fail
     go_ret
     refine ⟨⟨k,rfl,?_⟩,hw1⟩;rw [Zzi HX.out HH.out];simp
    | false=>
     have HH:=Ld hh;rw [hh] at HC;clear hh;go_wp2_with fail
     refine HC.out.mono ?_;rintro r w1 ⟨rfl,hb2⟩;have hw1:=hbr.trans (hb2.mono hbr.size);clear hb2 d0 d1 d2 d3;go_wp2_with fail
     exact ⟨⟨k+1,by go_num,by omega,Zuu HX.out HK.out HH.out,hw1⟩,by simp [intOf];omega⟩
  . have HE:Hid (Zj4 hs u=false):=by
     have:=HK.out;rw [List.take_of_length_le (by omega)] at this;exact this
    go_wp2_with fail
    go_ret
    exact ⟨⟨-1,rfl,by rw [HE.out];rfl⟩,hbr⟩
theorem Zl9 (u:Ud)(hs:List Eh)(A:Option Addr)(c b:Nat)(w:World)(hc:Zxh u b w)(hl:hs.length<=9223372036854775807)(hsl:Zz8 w w.heap.size A hs) :
 Calls Tryz.prog 58 #[.slice A hs.length c,.func (.func 59) #[] #[.pointer (some ⟨b,0,none⟩)]] w λr w'=>r=.returned (.bool (Zj4 hs u))/\RowKit.Below w.heap.size w w':=by
 have HI:=Ld (Zwe u hs A c b w hc hl hsl);clear hc hsl;generalize Zj4 hs u=q at HI ⊢;go_enter Tryz.func58,Tryz.ntmps58
 go_wp2_with fail
 refine HI.out.mono ?_;rintro r w1 ⟨⟨k,rfl,hk⟩,hb1⟩;have HK:=Ld hk;clear hk;go_wp2_with fail
 go_ret
 exact ⟨Vj HK.out,hb1⟩
end Go.Proofs.YtpheiojmcafolaaGreatDoor
