/-
 THE WALKS: val.split, val.Parts, val.Get.
-/
import Derived.Test.YtpheiojmcafolaaGreatDoorSz10
import Derived.Shelf.SlSortCmp.Whole1
import Derived.Shelf.SlSortCmp.NoneTotal
import Derived.Shelf.Spec.SlicesGrow
import Derived.Ground.SlsfProg
import Derived.Sort.Grow
import Derived.StillTailTactics
set_option maxRecDepth 100000
set_option maxHeartbeats 25600000
namespace Go.Proofs.YtpheiojmcafolaaGreatDoor
open Go.RowKit Go.Sort
theorem Zf2:(Tryz.prog.info? 9).map (λi=>(i.zero,i.size,i.bytes))=some (some (.string ⟨#[]⟩),1,16):=by kernel_rfl
theorem Vt {w:World}{base k:Nat}{e:TypeId}{v:Value}{n:Nat}{xs:List Value}(h:w.ownsRow base e k v n xs):∃A c,v=.slice A n c/\n<=c:=by
 rcases h.2 with ⟨hv,h0⟩ | ⟨g,cap,cur,hv,_,_,h1,_⟩
 . exact ⟨none,0,by rw [hv,h0],by omega⟩
 . exact ⟨some ⟨g,0,none⟩,cap,hv,h1⟩
structure Jk (g:Nat->Prop)(w:World)(x:NsM):Prop where
 off:Xu g w w.heap.size x.A x.e
 le:x.e.length<=x.c
 max:x.c<=9223372036854775807
theorem Jk.turn {g g':Nat->Prop}{w w':World}{x:NsM}(h:Jk g w x)(hs:w.heap.size<=w'.heap.size)(hk:∀k,k < w.heap.size->¬g k->w'.heap[k]? = w.heap[k]?)(hg:∀b,b < w.heap.size->g' b->g b):Jk g' w' x:=
 ⟨λhne=>by
  obtain ⟨b,o,e,h1,h2,h3⟩:=h.off hne;have hc:∀i,w'.cell? ⟨b,i,none⟩=w.cell? ⟨b,i,none⟩:=λi=>World.cell?_of_block (a:=⟨b,i,none⟩) (hk b h1 h2);exact ⟨b,o,e,Nat.lt_of_lt_of_le h1 hs,λhh=>h2 (hg b h1 hh),λi y hy=>by
   obtain ⟨q0,q1,q2,q3⟩:=h3 i y hy;exact ⟨(hc _).trans q0,(hc _).trans q1,(hc _).trans q2,(hc _).trans q3⟩⟩,h.le,h.max⟩
theorem Jk.good {g:Nat->Prop}{w:World}{x:NsM}(h:Jk g w x):Yq w w.heap.size x:=⟨h.off.sl,h.le,h.max⟩
theorem J4 {w w':World}{rb:Nat}(h:Yk w.heap.size rb w w'):w.grownBy w' (some rb):=⟨h.os,h.tape,h.output,h.size,λk hk hne=>h.block k hk (λe=>hne (by rw [e]))⟩
def G3 (rb:Nat)(pv nv:Value)(b:Nat):Prop:=b=rb\/pv.ownBlock=some b\/nv.ownBlock=some b
theorem Z2k {x:Nd}{ps:List (List Nd)}{j:Nat}{p:List Nd}(h:ps[j]? = some p)(hv:Vx p):vGo (x :: ps.flatten) (2*(x :: ps.flatten).length) .one (1+(ps.take j).flatten.length)=some (1+(ps.take j).flatten.length+p.length):=by
 have e0:x :: ps.flatten=(x :: (ps.take j).flatten)++p++(ps.drop (j+1)).flatten:=by rw [J0 h];simp
 have hr:=Z0t hv (x :: (ps.take j).flatten) (ps.drop (j+1)).flatten (2*(x :: ps.flatten).length) (by rw [e0];simp;omega);rw [<-e0,show (x :: (ps.take j).flatten).length=1+(ps.take j).flatten.length from by simp;omega] at hr;exact hr
theorem Z4e {x f:Nd}{ps:List (List Nd)}{j:Nat}{u:List Nd}(h:ps[j]? = some (f :: u))(hv:Vx u) :
 vGo (x :: ps.flatten) (2*(x :: ps.flatten).length) .one (1+(ps.take j).flatten.length+1)=some (1+(ps.take j).flatten.length+1+u.length) /\
 piece (x :: ps.flatten) (1+(ps.take j).flatten.length+1) (1+(ps.take j).flatten.length+1+u.length)=u/\(x :: ps.flatten)[1+(ps.take j).flatten.length]? = some f:=by
 have e0:x :: ps.flatten=(x :: (ps.take j).flatten ++ [f])++u++(ps.drop (j+1)).flatten:=by rw [J0 h];simp
 have hr:=Z0t hv (x :: (ps.take j).flatten ++ [f]) (ps.drop (j+1)).flatten (2*(x :: ps.flatten).length) (by rw [e0];simp;omega);have hm:=Zf5 (x :: (ps.take j).flatten ++ [f]) u (ps.drop (j+1)).flatten;rw [<-e0,show (x :: (ps.take j).flatten ++ [f]).length=1+(ps.take j).flatten.length+1 from by simp;omega] at hr hm;refine ⟨hr,hm,?_⟩;rw [e0,show 1+(ps.take j).flatten.length=(x :: (ps.take j).flatten).length from by simp;omega,List.append_assoc,List.append_assoc,List.getElem?_append_right (nL _)];simp
def Zfb (x:Nd)(p:List Nd):List Nd:=if x.op=6 then p.tail else p
def Zus (w:World)(r:Ending)(w':World)(qs:List (List Nd))(ns:List (List UInt8)):Prop:=
 ∃(Ap:Option Addr) (cp:Nat) (An:Option Addr) (cn:Nat) (ms:List NsM),r=.returned (.tuple #[.slice Ap ms.length cp,.slice An ns.length cn])/\ms.map NsM.e=qs/\ms.length<=cp/\cp<=9223372036854775807/\X8 w' Ap ms /\
  Y2 w' w'.heap.size An ns/\RowKit.Below w.heap.size w w'/\(∀y∈ms,∀b o,y.A=some ⟨b,o,none⟩->y.e≠[]->w.heap.size<=b)/\(∀b o,Ap=some ⟨b,o,none⟩->w.heap.size<=b)
theorem Zjh {w:World}{base:Nat}{e:TypeId}{v:Value}{n:Nat}{ss:List (List UInt8)}(h:w.ownsRow base e 1 v n (ss.map encStr)):∃A c,v=.slice A ss.length c/\Y2 w w.heap.size A ss:=by
 have hn:n=ss.length:=by have:=h.1;simp at this;omega
 subst hn;rcases h.2 with ⟨hv,h0⟩ | ⟨g,cap,cur,hv,_,hg,_,_,_,_⟩
 . have:ss = []:=List.eq_nil_of_length_eq_zero h0;subst this;exact ⟨none,0,hv,Y2.nil _ _ _⟩
 . refine ⟨some ⟨g,0,none⟩,cap,hv,λhne=>⟨g,0,rfl,(Array.getElem?_eq_some_iff.1 hg).1,λi l hl=>?_⟩⟩;have hi:=(List.getElem?_eq_some_iff.1 hl).1;subst hv;have:=h.cellAt i (by omega);rw [Nat.zero_add];rw [this,List.getElem?_map,hl];rfl
theorem Zld (x:Nd)(ps:List (List Nd))(A:Option Addr)(c:Nat)(w:World)(hl:(x :: ps.flatten).length<=200)(hn:x.n=ps.length)(h5:x.op=5->∀p∈ps,Vx p)(h6:x.op=6->∀p∈ps,∃f u,p=f :: u/\Vx u)(hop:x.op=5\/x.op=6)
 (hc:(x :: ps.flatten).length<=c) (hcm:c<=9223372036854775807) (hok:Y0 (x :: ps.flatten)) (hsl:Ye w w.heap.size A (x :: ps.flatten)) :
 Calls Tryz.prog 146 #[.slice A (x :: ps.flatten).length c] w λr w'=>Zus w r w' (ps.map (Zfb x)) (if x.op=6 then Zi ps else []):=by
 obtain ⟨i0,hi,hz0,hz1,hz2⟩:=info_parts Zfd;obtain ⟨j0,hj,hy0,hy1,hy2⟩:=info_parts Zf2;have hpl:ps.length<=199:=by
  have h1:∀l:List (List Nd),(∀p∈l,p≠[])->l.length<=l.flatten.length:=by
   intro l;induction l with
   | nil=>simp
   | cons p r ih=>
    intro h;have a1:=ih (λq hq=>h q (by simp [hq]));have a2:=List.length_pos_iff.2 (h p (by simp));rw [List.flatten_cons,List.length_append,List.length_cons];omega
  have h2:=h1 ps (λp hp=>by
   rcases hop with h | h
   . obtain ⟨y,r,e,_⟩:=(h5 h p hp).ne;rw [e];simp
   . obtain ⟨f,u,e,_⟩:=h6 h p hp;rw [e];simp)
  rw [List.length_cons] at hl;omega
 obtain ⟨b,o,rfl,hb,hcs⟩:=hsl (by simp);obtain ⟨d0,d1,-,-⟩:=hcs 0 x rfl;rw [Nat.zero_mul,Nat.add_zero] at d0 d1;rw [hn] at d1;have HS:=Ld hsl;have HCS:=Ld hcs;have HOK:=Ld hok;have H5:=Ld h5;have H6:=Ld h6;have HPO:=Ld (λi=>Zpv (x :: ps.flatten) (2*(x :: ps.flatten).length) i);have HB0:Hid (Blk (w.alloc (.cells #[.slice (some ⟨b,o,none⟩) (x :: ps.flatten).length c,.int .i64 1] 160)) w.heap.size 160 (rdr (some ⟨b,o,none⟩) (x :: ps.flatten).length c 1)):=Blk.new w _ _;have h0n:(0:Int) < ((x :: ps.flatten).length:Int):=by simp
 have HE:∀j p,ps[j]? = some p->Hid ((x :: ps.flatten).length=(x :: ps.flatten).length/\1+(ps.take j).flatten.length+p.length<=(x :: ps.flatten).length):=λj p hp=>⟨rfl,by
  have a1:=Vp hp;have a2:=Kv ps (j+1);rw [List.length_cons];omega⟩
 have HEE:=Ld HE;have HPA:=Ld (λj p (hp:ps[j]? = some p) (hv:Vx p)=>And.intro (Z2k (x:=x) hp hv) (Zc1 (x:=x) hp));have HFA:=Ld (λj f u (hp:ps[j]? = some (f :: u)) (hv:Vx u)=>Z4e (x:=x) hp hv);obtain ⟨e,hee⟩:∃e,x :: ps.flatten=e:=⟨_,rfl⟩;rw [hee] at HS HCS HOK HPO HB0 h0n HEE HPA HFA hl hc ⊢;clear hee hok hsl hcs h5 h6 HE hn;obtain ⟨NS,hNS⟩:∃NS,(if x.op=6 then Zi ps else [])=NS:=⟨_,rfl⟩;rw [hNS];have HNS:=Ld hNS;clear hNS;have k1:RowKit.Below w.heap.size w (w.alloc (.cells #[.slice (some ⟨b,o,none⟩) e.length c,.int .i64 1] 160)):=by (repeat (first | assumption | exact bR | apply bD | apply Za | refine bA ?_ _))
 have HNM:Hid (ps.map (Zfb x)=ps.map (Zfb x)):=rfl;go_enter Tryz.func146,Tryz.ntmps146
 go_wp2_with fail
 go_loopw [2,3,12] (λpv nv iv wr=>∃(j a:Nat) (ms:List NsM) (ns:List (List UInt8)),iv=.int .i64 j/\j<=ps.length/\ms.length<=j/\ns.length<=j/\Hid (a=1+(ps.take j).flatten.length)/\Hid (ms.map NsM.e=(ps.take j).map (Zfb x))/\Hid (ns=if x.op=6 then Zi (ps.take j) else []) /\
  Hid (wr.ownsRow (w.heap.size+1) 22 1 pv ms.length (Zr NsM.cells ms))/\Hid (wr.ownsRow (w.heap.size+1) 9 1 nv ns.length (ns.map encStr))/\Hid (∀b,pv.ownBlock=some b->nv.ownBlock≠some b) /\
  Hid (∀y∈ms,Jk (G3 w.heap.size pv nv) wr y/\∀b o,y.A=some ⟨b,o,none⟩->y.e≠[]->w.heap.size<=b)/\Hid (Blk wr w.heap.size 160 (rdr (some ⟨b,o,none⟩) e.length c a))/\RowKit.Below w.heap.size w wr) (λ_ _ iv _=>ps.length - (intOf iv).toNat)
 case atStart=>
  refine ⟨0,1,[],[],rfl,by omega,by simp,by simp,rfl,rfl,?_,World.ownsRow_nil _ _ _ _,World.ownsRow_nil _ _ _ _,?_,?_,HB0.out,k1⟩
  . show _=_;split <;> rfl
  . intro b hb;cases hb
  . intro y hy;cases hy
 case round=>
  obtain ⟨j,a,ms,ns,rfl,hj1,hml,hnl,HA,HM,HN,HO,HON,HDJ,HF,HB,hbr⟩:=hrel;have hzr:=hbr.size;have hzb:w.heap.size < wr.heap.size:=HB.out.lt;have f0:=(hbr.cell (p:=⟨b,o,none⟩) hb).trans d0;have f1:=(hbr.cell (p:=⟨b,o+1,none⟩) hb).trans d1;by_cases hlt:j < ps.length
  . have tl:decide ((j:Int) < (ps.length:Int))=true:=(by simp;omega);obtain ⟨p,hp⟩:∃p,ps[j]? = some p:=⟨_,gE hlt⟩;have hpe:=(HEE.out j p hp).out.2;have HP:=Ld hp;have hpm:=mG hp;obtain ⟨Ap,cp,hpv,hcp⟩:=Vt HO.out;subst hpv;obtain ⟨An,cn,hnv,hcn⟩:=Vt HON.out;subst hnv;by_cases h6:x.op=6
    . have t6:(x.op==6)=true:=(by simp [h6]);obtain ⟨f,u,rfl,hu⟩:=H6.out h6 p hpm;obtain ⟨g1,g2,g3⟩:=HFA.out j f u hp hu;rw [<-HA.out] at g1 g2 g3 hpe;have hae:a < e.length:=(by simp at hpe;omega);have q2:wr.cell? ⟨b,o+a*4+2,none⟩=some (.string f.s):=(hbr.cell (p:=⟨b,o+a*4+2,none⟩) hb).trans (HCS.out a f g3).c2;have r0:wr.cell? ⟨w.heap.size,1,none⟩=some (.int .i64 a):=HB.out.cell 1;have H6E:=Ld h6;have HG1:=Ld g1;have HG2:=Ld g2;have hul:u.length+1+a<=e.length:=(by simp at hpe;omega);have ho1:Hid ((wr.alloc (.cells #[.string f.s] 9)).ownsRow (w.heap.size+1) 9 1 (.slice An ns.length cn) ns.length (ns.map encStr)):=Zu HON.out (by (repeat (first | assumption | exact bR | apply bD | apply Za | refine bA ?_ _)));clear h6 g1 g2 g3 hp hpm hu hpe;have HSF:=Ld (λ(wB:World) (hg:(wr.alloc (.cells #[.string f.s] 9)).grownBy wB (Value.slice An ns.length cn).ownBlock)=>(show wB.cell? ⟨w.heap.size,1,none⟩=some (.int .i64 a)/\wB.frozen? ⟨w.heap.size,1,none⟩=false from by
       have hB:Blk wB w.heap.size 160 (rdr (some ⟨b,o,none⟩) e.length c a):=((hg.block w.heap.size (by simp;omega) (λh=>by have:=(Yf HON.out h.symm).1;omega)).trans (RowKit.Below.heap_alloc _ _ _ hzb)).trans HB.out;exact ⟨hB.cell 1,hB.frozen 1⟩))
      go_wp2_with (at_builtin;refine wpList_append_own_at _ rfl (.tmp 19) (.tmp 28) 23 rfl (w.heap.size+1) 9 j0 _ 1 16 Tryz.underlying23 hj hy0 hy1 hy2 rfl (by omega) _ ns.length (ns.map encStr) rfl ho1.out ⟨wr.heap.size,0,none⟩ 1 1 [.string f.s] rfl rfl (cell_one_new _ _ _) (by simp [Value.oneCell']) (by unfold maxLen;omega) (by omega) (by simp;omega) ?_;intro nv2 wB hown2 hgrow2 _ hloc2;obtain ⟨An2,cn2,hnv2,hcn2⟩:=Vt hown2;subst hnv2;obtain ⟨s0,s1⟩:=HSF.out wB hgrow2)
      have hnb:∀q,(Value.slice An ns.length cn).ownBlock=some q->w.heap.size+1<=q/\q < wr.heap.size:=λq hq=>Yf HON.out hq;have hpb:∀q,(Value.slice Ap ms.length cp).ownBlock=some q->w.heap.size+1<=q/\q < wr.heap.size:=λq hq=>Yf HO.out hq;have hzB:wr.heap.size+1<=wB.heap.size:=(by have:=hgrow2.size;simpa using this);have hkB:∀k,k < wr.heap.size->(Value.slice An ns.length cn).ownBlock≠some k->wB.heap[k]? = wr.heap[k]?:=λk hk hne=>(hgrow2.block k (by simp;omega) (λe=>hne e.symm)).trans (RowKit.Below.heap_alloc _ _ _ hk);have HBB:Hid (Blk wB w.heap.size 160 (rdr (some ⟨b,o,none⟩) e.length c a)):=(hkB w.heap.size hzb (λh=>by have:=(hnb _ h).1;omega)).trans HB.out;have HOB:Hid (wB.ownsRow (w.heap.size+1) 22 1 (.slice Ap ms.length cp) ms.length (Zr NsM.cells ms)):=
       (Zu HO.out (by (repeat (first | assumption | exact bR | apply bD | apply Za | refine bA ?_ _)):RowKit.Below wr.heap.size wr (wr.alloc (.cells #[.string f.s] 9)))).kept hgrow2 (by
        cases hh:(Value.slice Ap ms.length cp).ownBlock with
        | none=>exact .inl rfl
        | some q=>exact .inr (λh=>HDJ.out q hh h.symm))
      have HONB:Hid (wB.ownsRow (w.heap.size+1) 9 1 (.slice An2 (ns.length+1) cn2) (ns ++ [f.s.toList]).length ((ns ++ [f.s.toList]).map encStr)):=by
       show World.ownsRow _ _ _ _ _ _ _;rw [List.map_append,List.map_singleton,Zcr,List.length_append];exact hown2
      have HDB:Hid (∀q,(Value.slice Ap ms.length cp).ownBlock=some q->(Value.slice An2 (ns.length+1) cn2).ownBlock≠some q):=λq hq h=>by
       rcases hloc2 with h2 | h2
       . exact HDJ.out q hq (h2 ▸ h)
       . rw [h2] at h;injection h with h;have:=(hpb q hq).2;simp at h;omega
      have HFB:Hid (∀y∈ms,Jk (G3 w.heap.size (.slice Ap ms.length cp) (.slice An2 (ns.length+1) cn2)) wB y/\∀b o,y.A=some ⟨b,o,none⟩->y.e≠[]->w.heap.size<=b):=λy hy=>⟨(HF.out y hy).1.turn (by omega) (λk hk hg=>hkB k hk (λh=>hg (.inr (.inr h)))) (λq hq h=>by
       rcases h with h | h | h
       . exact .inl h
       . exact .inr (.inl h)
       . rcases hloc2 with h2 | h2
         . exact .inr (.inr (h2 ▸ h))
         . rw [h2] at h;injection h with h;simp at h;omega),(HF.out y hy).2⟩
      have hwB:RowKit.Below w.heap.size w wB:=RowKit.Below.grown (w:=wr.alloc (.cells #[.string f.s] 9)) (by (repeat (first | assumption | exact bR | apply bD | apply Za | refine bA ?_ _))) hgrow2 (by simp;omega) (λq hq=>by have:=(hnb q hq).1;omega);clear hown2 hgrow2 hloc2 ho1 r0 q2 f0 f1 hkB HSF;obtain ⟨wX,hwX⟩:∃wX,wB.setCell ⟨w.heap.size,1,none⟩ (.int .i64 ((a:Int)+1))=wX:=⟨_,rfl⟩;have HBX:Hid (Blk wX w.heap.size 160 (rdr (some ⟨b,o,none⟩) e.length c (a+1))):=(by rw [<-hwX];exact Zcb HBB.out);have hgX:wB.grownBy wX (some w.heap.size):=(by rw [<-hwX];exact ⟨rfl,rfl,rfl,by simp [World.setCell],λk hk hne=>RowKit.Below.heap_setCell _ _ _ _ (λh=>hne (by simp at h;rw [h]))⟩);rw [hwX];clear hwX s0 s1;have HOX:Hid (wX.ownsRow (w.heap.size+1) 22 1 (.slice Ap ms.length cp) ms.length (Zr NsM.cells ms)):=HOB.out.kept hgX (.inr (λh=>by have:=(hpb _ h).1;omega));have hnb2:∀q,(Value.slice An2 (ns.length+1) cn2).ownBlock=some q->w.heap.size+1<=q/\q < wB.heap.size:=λq hq=>Yf HONB.out hq;have HONX:Hid (wX.ownsRow (w.heap.size+1) 9 1 (.slice An2 (ns.length+1) cn2) (ns ++ [f.s.toList]).length ((ns ++ [f.s.toList]).map encStr)):=HONB.out.kept hgX (.inr (λh=>by have:=(hnb2 _ h).1;omega));have HFX:Hid (∀y∈ms,Jk (G3 w.heap.size (.slice Ap ms.length cp) (.slice An2 (ns.length+1) cn2)) wX y/\∀b o,y.A=some ⟨b,o,none⟩->y.e≠[]->w.heap.size<=b):=λy hy=>⟨(HFB.out y hy).1.turn hgX.size (λk hk hg=>hgX.block k hk (λh=>by injection h with h;exact hg (.inl h))) (λ_ _ h=>h),(HFB.out y hy).2⟩;have hwX2:RowKit.Below w.heap.size w wX:=hwB.grown hgX hwB.size (λq hq=>by injection hq with hq;omega);have hzX:wr.heap.size+1<=wX.heap.size:=(by have:=hgX.size;omega);have HDX:=HDB;have HNX:Hid (ns ++ [f.s.toList]=if x.op=6 then Zi (ps.take (j+1)) else []):=by
       show _=_;have e1:=HN.out;rw [if_pos H6E.out] at e1 ⊢;rw [e1,List.take_add_one,HP.out];simp [Zi,Xf]
      have HCX:Hid (Zfb x (f :: u)=u):=(by show _=_;unfold Zfb;rw [if_pos H6E.out];rfl);have HAX:Hid (a+1+u.length=1+(ps.take (j+1)).flatten.length):=(by show _=_;rw [Vp HP.out,HA.out];simp;omega);clear HOB HONB HDB HFB hgX HBB;have HQL:Hid ((u).length<=200):=(by show _<=_;omega);have HPR:=Ld ((HPO.out (a+1) wX w.heap.size (some ⟨b,o,none⟩) c (by omega) (by omega) hc hcm HOK.out HBX.out (HS.out.below hwX2)).1 _ HG1.out);rw [HG2.out] at HPR;have hzW:w.heap.size < wX.heap.size:=HBX.out.lt;clear HBX;go_wp2_with fail
      refine HPR.out.mono ?_;rintro r w1 ⟨A1,c1,rfl,hs1,hb1,ho1⟩;have hzx1:=ho1.size;have HCL:=Ld (Zgh (u) A1 c1 w1 (hs1.more (by omega)) HQL.out);have HB1:=Ld hb1;clear hs1 hb1;go_wp2_with fail
      refine HCL.out.mono ?_;rintro r w2 ⟨A2,c2,rfl,hl2,hm2,hfar2,hb2⟩;have hzx2:=hb2.size;have hg12:=J4 ho1;have HO3:Hid ((w2.alloc (.cells #[.slice A2 (u).length c2] 22)).ownsRow (w.heap.size+1) 22 1 (.slice Ap ms.length cp) ms.length (Zr NsM.cells ms)):=
       Zu (Zu (HOX.out.kept hg12 (.inr (λh=>by have:=(hpb _ h).1;omega))) hb2) (by (repeat (first | assumption | exact bR | apply bD | apply Za | refine bA ?_ _)))
      have hnbX:∀q,(Value.slice An2 (ns.length+1) cn2).ownBlock=some q->w.heap.size+1<=q/\q < wX.heap.size:=λq hq=>Yf HONX.out hq;have HON3:Hid ((w2.alloc (.cells #[.slice A2 (u).length c2] 22)).ownsRow (w.heap.size+1) 9 1 (.slice An2 (ns.length+1) cn2) (ns ++ [f.s.toList]).length ((ns ++ [f.s.toList]).map encStr)):=
       Zu (Zu (HONX.out.kept hg12 (.inr (λh=>by have:=(hnbX _ h).1;omega))) hb2) (by (repeat (first | assumption | exact bR | apply bD | apply Za | refine bA ?_ _)))
      have HFR:=Ld (hfar2 (G3 w.heap.size (.slice Ap ms.length cp) (.slice An2 (ns.length+1) cn2)) (λq hq=>by
       rcases hq with h | h | h
       . omega
       . have:=(hpb q h).2;omega
       . have:=(hnbX q h).2;omega))
      have HNEW:Hid (∀b o,A2=some ⟨b,o,none⟩->(u)≠[]->w.heap.size<=b):=λb' o' h hne=>by
       obtain ⟨b3,o3,e3,_,h3,_⟩:=hfar2 (λb=>b < w.heap.size) (λb hb=>by omega) hne;rw [h] at e3;injection e3 with e3;injection e3 with e3 _;omega
      have H2M:=Ld hl2;clear hfar2 ho1 hl2;go_wp2_with (at_builtin;refine wpList_append_own_at _ rfl (.tmp 37) (.tmp 41) 152 rfl (w.heap.size+1) 22 i0 _ 1 24 Tryz.underlying152 hi hz0 hz1 hz2 rfl (by omega) _ ms.length (Zr NsM.cells ms) rfl HO3.out ⟨w2.heap.size,0,none⟩ 1 1 [.slice A2 (u).length c2] rfl rfl (cell_one_new _ _ _) (by simp [Value.oneCell']) (by unfold maxLen;omega) (by omega) (by simp;omega) ?_;intro pv6 w6 hown6 hgrow6 _ hloc6;obtain ⟨Ap6,cp6,hpv6,hcp6⟩:=Vt hown6;subst hpv6)
      have hz6:w2.heap.size+1<=w6.heap.size:=(by have:=hgrow6.size;simpa using this);have hk6:∀k,k < w2.heap.size->(Value.slice Ap ms.length cp).ownBlock≠some k->w6.heap[k]? = w2.heap[k]?:=λk hk hne=>(hgrow6.block k (by simp;omega) (λe=>hne e.symm)).trans (RowKit.Below.heap_alloc _ _ _ hk);have HB6:Hid (Blk w6 w.heap.size 160 (rdr (some ⟨b,o,none⟩) e.length c (a+1+(u).length))):=(hk6 w.heap.size (by omega) (λh=>by have:=(hpb _ h).1;omega)).trans (HB1.out.below hb2 (by omega));have HO6:Hid (w6.ownsRow (w.heap.size+1) 22 1 (.slice Ap6 (ms.length+1) cp6) (ms ++ [(⟨A2,c2,u⟩:NsM)]).length (Zr NsM.cells (ms ++ [(⟨A2,c2,u⟩:NsM)]))):=by
       show World.ownsRow _ _ _ _ _ _ _;rw [List.length_append,Q1];exact hown6
      have HON6:Hid (w6.ownsRow (w.heap.size+1) 9 1 (.slice An2 (ns.length+1) cn2) (ns ++ [f.s.toList]).length ((ns ++ [f.s.toList]).map encStr)):=HON3.out.kept hgrow6 (by
       cases hh:(Value.slice An2 (ns.length+1) cn2).ownBlock with
       | none=>exact .inl rfl
       | some q=>exact .inr (λh=>HDX.out q h.symm hh))
      have HD6:Hid (∀q,(Value.slice Ap6 (ms.length+1) cp6).ownBlock=some q->(Value.slice An2 (ns.length+1) cn2).ownBlock≠some q):=λq hq h=>by
       rcases hloc6 with h2 | h2
       . exact HDX.out q (h2 ▸ hq) h
       . rw [h2] at hq;injection hq with hq;have:=(hnbX q h).2;simp at hq;omega
      have hg':∀q,q < w2.heap.size->G3 w.heap.size (.slice Ap6 (ms.length+1) cp6) (.slice An2 (ns.length+1) cn2) q->G3 w.heap.size (.slice Ap ms.length cp) (.slice An2 (ns.length+1) cn2) q:=λq hq h=>by
       rcases h with h | h | h
       . exact .inl h
       . rcases hloc6 with h2 | h2
         . exact .inr (.inl (h2 ▸ h))
         . rw [h2] at h;injection h with h;simp at h;omega
       . exact .inr (.inr h)
      have HF6:Hid (∀y∈ms ++ [(⟨A2,c2,u⟩:NsM)],Jk (G3 w.heap.size (.slice Ap6 (ms.length+1) cp6) (.slice An2 (ns.length+1) cn2)) w6 y/\∀b o,y.A=some ⟨b,o,none⟩->y.e≠[]->w.heap.size<=b):=λy hy=>by
       rcases List.mem_append.1 hy with hy | hy
       . exact ⟨(((HFX.out y hy).1.turn hzx1 (λk hk hg=>hg12.block k hk (λh=>by injection h with h;exact hg (.inl h))) (λ_ _ h=>h)).turn hzx2 (λk hk _=>hb2.block k hk) (λ_ _ h=>h)).turn (by omega) (λk hk hg=>hk6 k hk (λh=>hg (.inr (.inl h)))) hg',(HFX.out y hy).2⟩
       . simp at hy;subst hy;exact ⟨Jk.turn (w:=w2) ⟨HFR.out,H2M.out,hm2⟩ (by omega) (λk hk hg=>hk6 k hk (λh=>hg (.inr (.inl h)))) hg',HNEW.out⟩
      have HM6:Hid ((ms ++ [(⟨A2,c2,u⟩:NsM)]).map NsM.e=(ps.take (j+1)).map (Zfb x)):=by
       show _=_;rw [List.map_append,HM.out,List.take_add_one,HP.out,List.map_append];simp [HCX.out]
      have hw6:RowKit.Below w.heap.size w w6:=by
       have h1:RowKit.Below w.heap.size w w1:=hwX2.grown hg12 hwX2.size (λq hq=>by injection hq with hq;omega);have h2:RowKit.Below w.heap.size w w2:=h1.trans (hb2.mono h1.size);exact RowKit.Below.grown (w:=w2.alloc (.cells #[.slice A2 (u).length c2] 22)) (by have:=h2.size;(repeat (first | assumption | exact bR | apply bD | apply Za | refine bA ?_ _))) hgrow6 (by simp;omega) (λq hq=>by have:=(hpb q hq).1;omega)
      clear hown6 hgrow6 hloc6 hg' hk6;go_wp2_with fail
      exact ⟨⟨j+1,a+1+(u).length,ms ++ [⟨A2,c2,u⟩],ns ++ [f.s.toList],by go_num,by omega,by first | omega | (simp;omega),by first | omega | (simp;omega),HAX,HM6,HNX,HO6,HON6,HD6,HF6,HB6,hw6⟩,by simp [intOf];omega⟩
    . have t6:(x.op==6)=false:=(by simp [h6]);have h5:x.op=5:=(by rcases hop with h | h;exact h;exact absurd h h6);have hu:=H5.out h5 p hpm;obtain ⟨g1,g2⟩:=HPA.out j p hp hu;rw [<-HA.out] at g1 g2 hpe;have HG1:=Ld g1;have HG2:=Ld g2;have H6E:=Ld h6;obtain ⟨y0,r0,hpr,_⟩:=hu.ne;have hul:p.length+a<=e.length/\0 < p.length:=⟨by omega,by rw [hpr];simp⟩;have hae:a < e.length:=(by omega);clear h6 g1 g2 hp hpm hu hpe hpr h5;obtain ⟨wX,hwX⟩:∃wX,wr=wX:=⟨_,rfl⟩;subst hwX;have HBX:=HB;have HOX:=HO;have HONX:=HON;have HFX:=HF;have HDX:=HDJ;have hwX2:=hbr;have hpb:∀q,(Value.slice Ap ms.length cp).ownBlock=some q->w.heap.size+1<=q/\q < wr.heap.size:=λq hq=>Yf HO.out hq;have HNX:Hid (ns=if x.op=6 then Zi (ps.take (j+1)) else []):=by
       show _=_;have e1:=HN.out;rw [if_neg H6E.out] at e1 ⊢;exact e1
      have HCX:Hid (Zfb x p=p):=(by show _=_;unfold Zfb;rw [if_neg H6E.out]);have HAX:Hid (a+p.length=1+(ps.take (j+1)).flatten.length):=(by show _=_;rw [Vp HP.out,HA.out];omega);have HQL:Hid ((p).length<=200):=(by show _<=_;omega);have HPR:=Ld ((HPO.out (a) wr w.heap.size (some ⟨b,o,none⟩) c (by omega) (by omega) hc hcm HOK.out HBX.out (HS.out.below hwX2)).1 _ HG1.out);rw [HG2.out] at HPR;have hzW:w.heap.size < wr.heap.size:=HBX.out.lt;clear HBX;go_wp2_with fail
      refine HPR.out.mono ?_;rintro r w1 ⟨A1,c1,rfl,hs1,hb1,ho1⟩;have hzx1:=ho1.size;have HCL:=Ld (Zgh (p) A1 c1 w1 (hs1.more (by omega)) HQL.out);have HB1:=Ld hb1;clear hs1 hb1;go_wp2_with fail
      refine HCL.out.mono ?_;rintro r w2 ⟨A2,c2,rfl,hl2,hm2,hfar2,hb2⟩;have hzx2:=hb2.size;have hg12:=J4 ho1;have HO3:Hid ((w2.alloc (.cells #[.slice A2 (p).length c2] 22)).ownsRow (w.heap.size+1) 22 1 (.slice Ap ms.length cp) ms.length (Zr NsM.cells ms)):=
       Zu (Zu (HOX.out.kept hg12 (.inr (λh=>by have:=(hpb _ h).1;omega))) hb2) (by (repeat (first | assumption | exact bR | apply bD | apply Za | refine bA ?_ _)))
      have hnbX:∀q,(Value.slice An ns.length cn).ownBlock=some q->w.heap.size+1<=q/\q < wr.heap.size:=λq hq=>Yf HONX.out hq;have HON3:Hid ((w2.alloc (.cells #[.slice A2 (p).length c2] 22)).ownsRow (w.heap.size+1) 9 1 (.slice An ns.length cn) (ns).length ((ns).map encStr)):=
       Zu (Zu (HONX.out.kept hg12 (.inr (λh=>by have:=(hnbX _ h).1;omega))) hb2) (by (repeat (first | assumption | exact bR | apply bD | apply Za | refine bA ?_ _)))
      have HFR:=Ld (hfar2 (G3 w.heap.size (.slice Ap ms.length cp) (.slice An ns.length cn)) (λq hq=>by
       rcases hq with h | h | h
       . omega
       . have:=(hpb q h).2;omega
       . have:=(hnbX q h).2;omega))
      have HNEW:Hid (∀b o,A2=some ⟨b,o,none⟩->(p)≠[]->w.heap.size<=b):=λb' o' h hne=>by
       obtain ⟨b3,o3,e3,_,h3,_⟩:=hfar2 (λb=>b < w.heap.size) (λb hb=>by omega) hne;rw [h] at e3;injection e3 with e3;injection e3 with e3 _;omega
      have H2M:=Ld hl2;clear hfar2 ho1 hl2;go_wp2_with (at_builtin;refine wpList_append_own_at _ rfl (.tmp 37) (.tmp 41) 152 rfl (w.heap.size+1) 22 i0 _ 1 24 Tryz.underlying152 hi hz0 hz1 hz2 rfl (by omega) _ ms.length (Zr NsM.cells ms) rfl HO3.out ⟨w2.heap.size,0,none⟩ 1 1 [.slice A2 (p).length c2] rfl rfl (cell_one_new _ _ _) (by simp [Value.oneCell']) (by unfold maxLen;omega) (by omega) (by simp;omega) ?_;intro pv6 w6 hown6 hgrow6 _ hloc6;obtain ⟨Ap6,cp6,hpv6,hcp6⟩:=Vt hown6;subst hpv6)
      have hz6:w2.heap.size+1<=w6.heap.size:=(by have:=hgrow6.size;simpa using this);have hk6:∀k,k < w2.heap.size->(Value.slice Ap ms.length cp).ownBlock≠some k->w6.heap[k]? = w2.heap[k]?:=λk hk hne=>(hgrow6.block k (by simp;omega) (λe=>hne e.symm)).trans (RowKit.Below.heap_alloc _ _ _ hk);have HB6:Hid (Blk w6 w.heap.size 160 (rdr (some ⟨b,o,none⟩) e.length c (a+(p).length))):=(hk6 w.heap.size (by omega) (λh=>by have:=(hpb _ h).1;omega)).trans (HB1.out.below hb2 (by omega));have HO6:Hid (w6.ownsRow (w.heap.size+1) 22 1 (.slice Ap6 (ms.length+1) cp6) (ms ++ [(⟨A2,c2,p⟩:NsM)]).length (Zr NsM.cells (ms ++ [(⟨A2,c2,p⟩:NsM)]))):=by
       show World.ownsRow _ _ _ _ _ _ _;rw [List.length_append,Q1];exact hown6
      have HON6:Hid (w6.ownsRow (w.heap.size+1) 9 1 (.slice An ns.length cn) (ns).length ((ns).map encStr)):=HON3.out.kept hgrow6 (by
       cases hh:(Value.slice An ns.length cn).ownBlock with
       | none=>exact .inl rfl
       | some q=>exact .inr (λh=>HDX.out q h.symm hh))
      have HD6:Hid (∀q,(Value.slice Ap6 (ms.length+1) cp6).ownBlock=some q->(Value.slice An ns.length cn).ownBlock≠some q):=λq hq h=>by
       rcases hloc6 with h2 | h2
       . exact HDX.out q (h2 ▸ hq) h
       . rw [h2] at hq;injection hq with hq;have:=(hnbX q h).2;simp at hq;omega
      have hg':∀q,q < w2.heap.size->G3 w.heap.size (.slice Ap6 (ms.length+1) cp6) (.slice An ns.length cn) q->G3 w.heap.size (.slice Ap ms.length cp) (.slice An ns.length cn) q:=λq hq h=>by
       rcases h with h | h | h
       . exact .inl h
       . rcases hloc6 with h2 | h2
         . exact .inr (.inl (h2 ▸ h))
         . rw [h2] at h;injection h with h;simp at h;omega
       . exact .inr (.inr h)
      have HF6:Hid (∀y∈ms ++ [(⟨A2,c2,p⟩:NsM)],Jk (G3 w.heap.size (.slice Ap6 (ms.length+1) cp6) (.slice An ns.length cn)) w6 y/\∀b o,y.A=some ⟨b,o,none⟩->y.e≠[]->w.heap.size<=b):=λy hy=>by
       rcases List.mem_append.1 hy with hy | hy
       . exact ⟨(((HFX.out y hy).1.turn hzx1 (λk hk hg=>hg12.block k hk (λh=>by injection h with h;exact hg (.inl h))) (λ_ _ h=>h)).turn hzx2 (λk hk _=>hb2.block k hk) (λ_ _ h=>h)).turn (by omega) (λk hk hg=>hk6 k hk (λh=>hg (.inr (.inl h)))) hg',(HFX.out y hy).2⟩
       . simp at hy;subst hy;exact ⟨Jk.turn (w:=w2) ⟨HFR.out,H2M.out,hm2⟩ (by omega) (λk hk hg=>hk6 k hk (λh=>hg (.inr (.inl h)))) hg',HNEW.out⟩
      have HM6:Hid ((ms ++ [(⟨A2,c2,p⟩:NsM)]).map NsM.e=(ps.take (j+1)).map (Zfb x)):=by
       show _=_;rw [List.map_append,HM.out,List.take_add_one,HP.out,List.map_append];simp [HCX.out]
      have hw6:RowKit.Below w.heap.size w w6:=by
       have h1:RowKit.Below w.heap.size w w1:=hwX2.grown hg12 hwX2.size (λq hq=>by injection hq with hq;omega);have h2:RowKit.Below w.heap.size w w2:=h1.trans (hb2.mono h1.size);exact RowKit.Below.grown (w:=w2.alloc (.cells #[.slice A2 (p).length c2] 22)) (by have:=h2.size;(repeat (first | assumption | exact bR | apply bD | apply Za | refine bA ?_ _))) hgrow6 (by simp;omega) (λq hq=>by have:=(hpb q hq).1;omega)
      clear hown6 hgrow6 hloc6 hg' hk6;go_wp2_with fail
      exact ⟨⟨j+1,a+(p).length,ms ++ [⟨A2,c2,p⟩],ns,by go_num,by omega,by first | omega | (simp;omega),by first | omega | (simp;omega),HAX,HM6,HNX,HO6,HON6,HD6,HF6,HB6,hw6⟩,by simp [intOf];omega⟩
  . have tl:decide ((j:Int) < (ps.length:Int))=false:=(by simp;omega);obtain rfl:j=ps.length:=(by omega);obtain ⟨Ap,cp,hpv,hcp⟩:=Vt HO.out;subst hpv;have hpm:cp<=9223372036854775807:=by
     rcases HO.out.2 with ⟨h1,_⟩ | ⟨g,cap,cur,h1,_,_,_,h2,_⟩
     . injection h1 with _ _ h1;omega
     . injection h1 with _ _ h1;unfold maxLen at h2;omega
    have hpn:∀b o,Ap=some ⟨b,o,none⟩->w.heap.size<=b:=λb o h=>by
     subst h;have:=(Yf HO.out (b:=b) rfl).1;omega
    obtain ⟨-,Ap',cp',hpv',-,-,hps'⟩:=Y1 Zbv HO.out;injection hpv' with e1 e2 e3
    subst e1 e3;obtain ⟨An,cn,hnv,hss⟩:=Zjh HON.out;subst hnv;have HPS:=Ld hps';have HSS:=Ld hss;have HPN:=Ld hpn;clear hps' hss hpn e2;go_wp2_with fail
    go_ret2
    refine ⟨Ap,cp,An,cn,ms,?_,?_,hcp,hpm,⟨HPS.out,λy hy=>(HF.out y hy).1.good⟩,?_,hbr,λy hy=>(HF.out y hy).2,HPN.out⟩
    . have:=HN.out;rw [List.take_of_length_le (nL _),HNS.out] at this;rw [<-this];rfl
    . have:=HM.out;rw [List.take_of_length_le (nL _)] at this;exact this
    . have:=HN.out;rw [List.take_of_length_le (nL _),HNS.out] at this;rw [<-this];exact HSS.out
def bsL (l:List UInt8):ByteArray:=⟨l.toArray⟩
theorem Vh (l:List UInt8):(bsL l).toList=l:=by unfold bsL;rw [ByteArray.toList_eq]
theorem Z0i (s:ByteArray):bsL s.toList=s:=by unfold bsL;rw [ByteArray.toList_eq]
def Zxg (ss:List (List UInt8))(t:List UInt8):Int:=if t∈ss then (ss.idxOf t:Int) else -1
theorem Zht (ss:List (List UInt8))(j:Nat):(ss.map bsL).getD j ByteArray.empty=bsL (ss.getD j []):=by
 rw [List.getD_eq_getElem?_getD,List.getD_eq_getElem?_getD,List.getElem?_map];cases ss[j]? <;> rfl
theorem Zyw (ss:List (List UInt8))(s:ByteArray):Lib.idxOfS (ss.map bsL) s=Zxg ss s.toList:=by
 unfold Zxg;have hlen:(ss.map bsL).length=ss.length:=List.length_map _;by_cases h:s.toList∈ss
 . rw [if_pos h];have hk:=List.idxOf_lt_length_iff.2 h;have hg:=List.getElem_idxOf hk;have:=Lib.idxOfS_hit (ss.map bsL) ss.length (ss.idxOf s.toList) s hk (by omega) (by
    rw [Zht,List.getD_eq_getElem?_getD,gE hk,hg];exact Z0i s) (by
    intro j hj hx;rw [Zht,List.getD_eq_getElem?_getD,gE (by omega)] at hx;have hx':bsL ss[j]=s:=hx;have hx2:ss[j]=s.toList:=(by have:=congrArg ByteArray.toList hx';rwa [Vh] at this);have hne:=List.not_of_lt_findIdx (p:=(· == s.toList)) (xs:=ss) hj;rw [hx2] at hne;simp at hne)
   rw [List.take_of_length_le (by omega)] at this;exact this
 . rw [if_neg h];have:=Lib.idxOfS_miss (ss.map bsL) ss.length s (by
    intro j hj hx;rw [Zht,List.getD_eq_getElem?_getD,gE hj] at hx;have hx':bsL ss[j]=s:=hx;apply h;rw [<-hx',Vh];exact List.getElem_mem hj)
   rw [List.take_of_length_le (by omega)] at this;exact this
theorem Zqe {w:World}{B b o:Nat}{ss:List (List UInt8)}(h:Y2 w B (some ⟨b,o,none⟩) ss):∀j,j < (ss.map bsL).length->w.cell? ⟨b,o+j,none⟩=some (.string ((ss.map bsL).getD j ByteArray.empty)):=by
 intro j hj;rw [List.length_map] at hj;obtain ⟨b',o',e,_,hc⟩:=h.at_ hj;injection e with e;injection e with e1 e2;subst e1 e2
 rw [hc j _ (gE hj),Zht,List.getD_eq_getElem?_getD,gE hj];rfl
theorem Zvx (ss:List (List UInt8))(A:Option Addr)(c:Nat)(s:ByteArray)(w:World)(hs:Y2 w w.heap.size A ss)(hl:ss.length<=9223372036854775807) :
 Calls Tryz.prog 104 #[.slice A ss.length c,.string s] w λe w'=>e=.returned (.int .i64 (Zxg ss s.toList))/\w=w':=by
 by_cases h0:ss = []
 . subst h0;refine (Tryz.slices_Index_string_empty A c s w).mono ?_;rintro e w' ⟨rfl,rfl⟩;exact ⟨rfl,rfl⟩
 . have hpos:0 < ss.length:=List.length_pos_iff.2 h0;obtain ⟨b,o,rfl,hb,hc⟩:=hs.at_ (i:=0) hpos;refine (Tryz.slices_Index_string b o ss.length c (ss.map bsL) s w (by simp) hl (Zqe hs)).mono ?_;rintro e w' ⟨rfl,rfl⟩;refine ⟨?_,rfl⟩;rw [List.take_of_length_le (by simp),Zyw]
section
variable {α : Type} [Inhabited α] {enc : α -> Value}
theorem Zl1 {w:World}{g:Nat}{cur:Array Value}{e:TypeId}{ss:List α}(hb:w.heap[g]? = some (.cells cur e (0,0)))(ht:cur.toList.take ss.length=ss.map enc):Holds enc w g 0 ss.toArray:=by
 intro j hj;have hj':j < ss.length:=by simpa using hj
 refine ⟨?_,by simp [World.frozen?,hb]⟩;have h1:(cur.toList.take ss.length)[j]? = (ss.map enc)[j]?:=by rw [ht]
 rw [List.getElem?_take_of_lt hj'] at h1;simp only [World.cell?,hb,Nat.zero_add];simp only [Option.isSome_none,Bool.false_eq_true,if_false];rw [<-Array.getElem?_toList,h1];simp [hj']
theorem Zma {w:World}{g n:Nat}{os:Array Obj}{cur:Array Value}{e:TypeId}{fr:Nat × Nat}(d:Array α)(hb:w.heap[g]? = some (.cells cur e fr)) :
 (sortWorld enc w g 0 n d os).heap[g]? = some (.cells (putCells enc 0 d cur) e fr):=by
 have hg:g < w.heap.size:=(Array.getElem?_eq_some_iff.1 hb).1;unfold sortWorld;rw [heap_grow_old _ _ (by simpa using hg)];simp [putRow,mapBlock,Sort.ahead,Array.getElem?_modify,hb,onCells]
theorem Ki {w:World}{g n:Nat}{os:Array Obj}(d:Array α):w.grownBy (sortWorld enc w g 0 n d os) (some g):=by
 refine ⟨rfl,rfl,rfl,by simp [sortWorld],λk hk hne=>?_⟩;unfold sortWorld;rw [heap_grow_old _ _ (by simpa using hk)];have:g≠k:=λe=>hne (by rw [e]);simp [putRow,mapBlock,Sort.ahead,Array.getElem?_modify,this]
theorem Zhj (cur:Array Value)(ts:List α)(h:ts.length<=cur.size):(putCells enc 0 ts.toArray cur).toList.take ts.length=ts.map enc:=by
 apply List.ext_getElem?;intro j;by_cases hj:j < ts.length
 . rw [List.getElem?_take_of_lt hj,Array.getElem?_toList];simp [putCells,hj,show j < cur.size by omega]
 . rw [List.getElem?_take_eq_none (by omega),List.getElem?_eq_none (by simp;omega)]
theorem Zg0 {w:World}{base g cap n:Nat}{e:TypeId}{os:Array Obj}{cur:Array Value}{ts:List α}{m:Nat}(hl:ts.length=m)(hbase:base<=g)(hb:w.heap[g]? = some (.cells cur e (0,0)))
 (h1:m<=cap) (h2:cap<=maxLen) (h3:cur.size=cap*1) :
 (sortWorld enc w g 0 n ts.toArray os).ownsRow base e 1 (.slice (some ⟨g,0,none⟩) m cap) m (ts.map enc):=
 ⟨by simp [hl],.inr ⟨g,cap,_,rfl,hbase,Zma _ hb,h1,h2,by simp [putCells,h3],by rw [Nat.mul_one,<-hl];exact Zhj cur ts (by omega)⟩⟩
end
def Z5z (x:NsM):Value:=.slice x.A x.e.length x.c
theorem U6 (xs:List NsM):Zr NsM.cells xs=xs.map Z5z:=by
 induction xs with
 | nil=>rfl
 | cons x r ih=>show NsM.cells x++Zr NsM.cells r=_;rw [ih];rfl
theorem Zp3 {α:Type}{P:α->Prop}:∀(xs:List α),(∀x∈xs,P x)->∃L:List {x:α // P x},L.map Subtype.val=xs
 | [],_=>⟨[],rfl⟩
 | x :: xs,h=>by
  obtain ⟨L,hL⟩:=Zp3 xs λy hy=>h y (by simp [hy]);exact ⟨⟨x,h x (by simp)⟩ :: L,by simp [hL]⟩
theorem Zhu {sf cf:Nat}{ρ:Shelf.Ren}(L:SlLaysF.n6 Tryz.prog ρ)(hsf:ρ.f 6=sf)(eg:∀args w,(callFunc cf args).run Tryz.prog w=.ok (.enter cf args) w)(cmp:List Nd->List Nd->Int)
 {w:World} {base:Nat} {v:Value} {ms:List NsM} (h:w.ownsRow base 22 1 v ms.length (Zr NsM.cells ms)) (hl:ms.length < 4611686018427387904) (Q:NsM->Prop) (hQ:∀y∈ms,Q y) (hof:∀y∈ms,Vd w v.ownBlock y)
 (hO:SWO (ltOf λx y:{x:NsM // Q x}=>cmp x.1.e y.1.e))
 (hcmp:∀(x y:NsM) (W:World),Q x->Q y->Yq W W.heap.size x->Yq W W.heap.size y->Calls Tryz.prog cf #[.slice x.A x.e.length x.c,.slice y.A y.e.length y.c] W λr w'=>r=.returned (.int .i64 (cmp x.e y.e))/\∃q os',w'=grow (W.drewN q) os') :
 Calls Tryz.prog sf #[v,.func (.func cf) #[] #[]] w λr w'=>r=.returned (.tuple #[])/\∃ds:List NsM,ds.Perm ms/\(∀(i j:Nat) (a b:NsM),ds[i]? = some a->ds[j]? = some b->i < j->¬cmp b.e a.e < 0) /\
  w'.ownsRow base 22 1 v ms.length (Zr NsM.cells ds)/\(∀y∈ds,Vd w' v.ownBlock y)/\w.grownBy w' v.ownBlock:=by
 subst hsf;rcases h.2 with ⟨hv,h0⟩ | ⟨g,cap,cur,hv,hbase,hb,h1,h2,h3,h4⟩
 . subst hv;refine (AnyF.slices_SortFunc_none { L with } none 0 _ w).mono ?_;rintro r w' ⟨rfl,rfl⟩;obtain rfl:ms = []:=List.eq_nil_of_length_eq_zero h0;exact ⟨rfl,[],.refl _,by simp,World.ownsRow_nil _ base 22 1,by simp,World.grownBy.refl _ _⟩
 . subst hv;have hg:g < w.heap.size:=(Array.getElem?_eq_some_iff.1 hb).1;cases hms:ms with
   | nil=>
    subst hms;refine (AnyF.slices_SortFunc_none { L with } (some ⟨g,0,none⟩) cap _ w).mono ?_;rintro r w' ⟨rfl,rfl⟩;exact ⟨rfl,[],.refl _,by simp,h,by simp,World.grownBy.refl _ _⟩
   | cons m0 mr=>
    rw [<-hms];have hm0:m0∈ms:=(by rw [hms];simp);obtain ⟨Lx,hLx⟩:=Zp3 (P:=λx=>Q x/\Vd w (some g) x) ms (λy hy=>⟨hQ y hy,hof y hy⟩);haveI:Inhabited {x:NsM // Q x/\Vd w (some g) x}:=⟨⟨m0,hQ _ hm0,hof _ hm0⟩⟩
    obtain ⟨enc,henc⟩:∃enc:{x:NsM // Q x/\Vd w (some g) x}->Value,enc=λx=>Z5z x.1:=⟨_,rfl⟩;have hlen:Lx.length=ms.length:=(by rw [<-hLx,List.length_map]);have hmap:Lx.map enc=Zr NsM.cells ms:=(by rw [U6,<-hLx,List.map_map,henc];rfl);have hH:Holds enc w g 0 Lx.toArray:=Zl1 hb (by rw [hmap,hlen];simpa using h4);have hO':SWO (ltOf λx y:{x:NsM // Q x/\Vd w (some g) x}=>cmp x.1.e y.1.e):=
     ⟨λx=>hO.irrefl ⟨x.1,x.2.1⟩,λx y z=>hO.trans ⟨x.1,x.2.1⟩ ⟨y.1,y.2.1⟩ ⟨z.1,z.2.1⟩,λx y z=>hO.ntrans ⟨x.1,x.2.1⟩ ⟨y.1,y.2.1⟩ ⟨z.1,z.2.1⟩⟩
    have hC:CmpLays1 Tryz.prog cf #[] enc (λx y=>cmp x.1.e y.1.e) g 0 Lx.toArray.size w:=by
     intro m os dk hs x y;rw [henc];have hgr:w.grownBy (sortWorld enc w g 0 m dk os) (some g):=Ki dk;have gx:=(x.2.2.grown hgr (.inl rfl)).good;have gy:=(y.2.2.grown hgr (.inl rfl)).good;rw [henc] at gx gy;exact hcmp x.1 y.1 _ x.2.1 y.2.1 gx gy
    have hcon:=Any.slices_SortFunc L enc (λx=>by rw [henc];rfl) (λx y=>cmp x.1.e y.1.e) hO' cf #[] g 0 cap Lx.toArray w eg hC hH hg (by simpa [hlen] using hl);rw [List.size_toArray,hlen] at hcon;refine hcon.mono ?_;rintro r w' ⟨rfl,d',n,os,hp,hs,rfl⟩;have hd:d'.size=ms.length:=(by rw [hp.1];simpa using hlen);have hperm:d'.toList.Perm Lx:=by
     have:=hp.2.2;rw [show d'.extract 0 ms.length=d' from by rw [<-hd];simp,show Lx.toArray.extract 0 ms.length=Lx.toArray from by rw [<-hlen];simp] at this;simpa using this
    refine ⟨rfl,d'.toList.map Subtype.val,(hperm.map _).trans (by rw [hLx]),?_,?_,?_,Ki d'⟩
    . intro i j a b ha hb' hij;rw [List.getElem?_map] at ha hb';obtain ⟨a',ha1,rfl⟩:=Option.map_eq_some_iff.1 ha;obtain ⟨b',hb1,rfl⟩:=Option.map_eq_some_iff.1 hb';obtain ⟨ki,ei⟩:=List.getElem?_eq_some_iff.1 ha1;obtain ⟨kj,ej⟩:=List.getElem?_eq_some_iff.1 hb1;simp only [Array.length_toList] at ki kj;have:=hs i j (Nat.zero_le _) hij (by omega);rw [getElem!_pos d' i ki,getElem!_pos d' j kj] at this;simp only [Array.getElem_toList] at ei ej;rw [ei,ej] at this;unfold ltOf at this;simpa using this
    . have:=Zg0 (enc:=enc) (n:=n) (os:=os) (ts:=d'.toList) (m:=ms.length) (by simpa using hd) hbase hb h1 h2 h3;rw [U6,List.map_map];rw [henc] at this ⊢;simpa using this
    . intro y hy;obtain ⟨y',_,rfl⟩:=List.mem_map.1 hy;exact y'.2.2.grown (Ki d') (.inl rfl)
end Go.Proofs.YtpheiojmcafolaaGreatDoor
namespace Go.Proofs
open Go.Shelf
def Tryz.growN_ren:Go.Shelf.Ren:=⟨fun | 4=>167 | n=>n,fun | 22=>22 | 25=>37 | 3=>3 | 4=>4 | 9=>9 | 20=>20 | 0=>0 | n=>n,fun | n=>n⟩
theorem Tryz.growN:Go.Proofs.Lays8.n4 Tryz.prog Tryz.growN_ren:={
 mixed:=by kernel_rfl
 f4:=⟨Tryz.f167.name,by decide,Tryz.func167.trans (congrArg some (by kernel_rfl))⟩
 t0:=Tryz.underlying0
 a0:=Tryz.isAgg0
 z0:=Tryz.sizeOf0
 v0:=Tryz.zeroValue0
 t3:=Tryz.underlying3
 a3:=Tryz.isAgg3
 z3:=Tryz.sizeOf3
 v3:=Tryz.zeroValue3
 t4:=Tryz.underlying4
 a4:=Tryz.isAgg4
 z4:=Tryz.sizeOf4
 v4:=Tryz.zeroValue4
 t9:=Tryz.underlying9
 a9:=Tryz.isAgg9
 z9:=Tryz.sizeOf9
 v9:=Tryz.zeroValue9
 t20:=Tryz.underlying20
 a20:=Tryz.isAgg20
 z20:=Tryz.sizeOf20
 v20:=Tryz.zeroValue20
 t22:=Tryz.underlying22
 a22:=Tryz.isAgg22
 z22:=Tryz.sizeOf22
 v22:=Tryz.zeroValue22 }
def Tryz.sortL_ren:Go.Shelf.Ren:=⟨fun | 6=>132 | 15=>162 | 14=>161 | 28=>192 | 29=>193 | 20=>184 | 21=>185 | 22=>186 | 23=>187 | 24=>188 | 25=>189 | 26=>190 | 27=>191 | 46=>208 | 47=>209 | 48=>210 | 49=>211 | 50=>212 | 57=>221 | n=>n,fun | 22=>152 | 24=>22 | 25=>190 | 3=>3 | 39=>243 | 0=>0 | 53=>225 | 55=>219 | 4=>4 | 46=>276 | 45=>275 | 50=>168 | 5=>5 | 9=>9 | 66=>312 | 70=>316 | 76=>334 | 77=>335 | n=>n,fun | n=>n⟩
theorem Tryz.sortL:Go.Proofs.SlLaysF.n6 Tryz.prog Tryz.sortL_ren:={
 mixed:=by kernel_rfl
 f6:=⟨Tryz.f132.name,by decide,Tryz.func132.trans (congrArg some (by kernel_rfl))⟩
 f14:=⟨Tryz.f161.name,by decide,Tryz.func161.trans (congrArg some (by kernel_rfl))⟩
 f15:=Tryz.func162.trans (congrArg some (by kernel_rfl))
 f20:=⟨Tryz.f184.name,by decide,Tryz.func184.trans (congrArg some (by kernel_rfl))⟩
 f21:=⟨Tryz.f185.name,by decide,Tryz.func185.trans (congrArg some (by kernel_rfl))⟩
 f22:=⟨Tryz.f186.name,by decide,Tryz.func186.trans (congrArg some (by kernel_rfl))⟩
 f23:=⟨Tryz.f187.name,by decide,Tryz.func187.trans (congrArg some (by kernel_rfl))⟩
 f24:=⟨Tryz.f188.name,by decide,Tryz.func188.trans (congrArg some (by kernel_rfl))⟩
 f25:=⟨Tryz.f189.name,by decide,Tryz.func189.trans (congrArg some (by kernel_rfl))⟩
 f26:=⟨Tryz.f190.name,by decide,Tryz.func190.trans (congrArg some (by kernel_rfl))⟩
 f27:=⟨Tryz.f191.name,by decide,Tryz.func191.trans (congrArg some (by kernel_rfl))⟩
 f28:=Tryz.func192.trans (congrArg some (by kernel_rfl))
 f29:=Tryz.func193.trans (congrArg some (by kernel_rfl))
 f46:=⟨Tryz.f208.name,by decide,Tryz.func208.trans (congrArg some (by kernel_rfl))⟩
 f47:=Tryz.func209.trans (congrArg some (by kernel_rfl))
 f48:=Tryz.func210.trans (congrArg some (by kernel_rfl))
 f49:=⟨Tryz.f211.name,by decide,Tryz.func211.trans (congrArg some (by kernel_rfl))⟩
 f50:=⟨Tryz.f212.name,by decide,Tryz.func212.trans (congrArg some (by kernel_rfl))⟩
 f57:=⟨Tryz.f221.name,by decide,Tryz.func221.trans (congrArg some (by kernel_rfl))⟩
 t0:=Tryz.underlying0
 a0:=Tryz.isAgg0
 z0:=Tryz.sizeOf0
 v0:=Tryz.zeroValue0
 t3:=Tryz.underlying3
 a3:=Tryz.isAgg3
 z3:=Tryz.sizeOf3
 v3:=Tryz.zeroValue3
 t4:=Tryz.underlying4
 a4:=Tryz.isAgg4
 z4:=Tryz.sizeOf4
 v4:=Tryz.zeroValue4
 t5:=Tryz.underlying5
 a5:=Tryz.isAgg5
 z5:=Tryz.sizeOf5
 v5:=Tryz.zeroValue5
 t9:=Tryz.underlying9
 a9:=Tryz.isAgg9
 z9:=Tryz.sizeOf9
 v9:=Tryz.zeroValue9
 t22:=Tryz.underlying152
 a22:=Tryz.isAgg152
 z22:=Tryz.sizeOf152
 v22:=Tryz.zeroValue152
 a24:=Tryz.isAgg22
 z24:=Tryz.sizeOf22
 t25:=Tryz.underlying190
 a25:=Tryz.isAgg190
 z25:=Tryz.sizeOf190
 v25:=Tryz.zeroValue190
 t39:=Tryz.underlying243
 a39:=Tryz.isAgg243
 z39:=Tryz.sizeOf243
 v39:=Tryz.zeroValue243
 t45:=Tryz.underlying275
 a45:=Tryz.isAgg275
 z45:=Tryz.sizeOf275
 v45:=Tryz.zeroValue275
 t46:=Tryz.underlying276
 a46:=Tryz.isAgg276
 z46:=Tryz.sizeOf276
 v46:=Tryz.zeroValue276
 t50:=Tryz.underlying168
 a50:=Tryz.isAgg168
 z50:=Tryz.sizeOf168
 v50:=Tryz.zeroValue168
 t53:=Tryz.underlying225
 a53:=Tryz.isAgg225
 z53:=Tryz.sizeOf225
 v53:=Tryz.zeroValue225
 t55:=Tryz.underlying219
 a55:=Tryz.isAgg219
 z55:=Tryz.sizeOf219
 v55:=Tryz.zeroValue219
 t66:=Tryz.underlying312
 a66:=Tryz.isAgg312
 z66:=Tryz.sizeOf312
 v66:=Tryz.zeroValue312
 t70:=Tryz.underlying316
 a70:=Tryz.isAgg316
 z70:=Tryz.sizeOf316
 v70:=Tryz.zeroValue316
 t76:=Tryz.underlying334
 a76:=Tryz.isAgg334
 z76:=Tryz.sizeOf334
 v76:=Tryz.zeroValue334
 t77:=Tryz.underlying335
 a77:=Tryz.isAgg335
 z77:=Tryz.sizeOf335
 v77:=Tryz.zeroValue335 }
end Go.Proofs
namespace Go.Proofs.YtpheiojmcafolaaGreatDoor
open Go.RowKit
theorem Zhk {w w':World}(h:RowKit.Below w.heap.size w w')(hd:w.drawn<=w'.drawn):∃q os',w'=Sort.grow (w.drewN q) os':=by
 refine ⟨w'.drawn - w.drawn,w'.heap.extract w.heap.size w'.heap.size,?_⟩;have e1:w.heap++w'.heap.extract w.heap.size w'.heap.size=w'.heap:=by
  apply Array.ext_getElem?;intro k;by_cases hk:k < w.heap.size
  . rw [Array.getElem?_append_left hk];exact (h.block k hk).symm
  . rw [Array.getElem?_append_right (by omega)];by_cases hk2:k < w'.heap.size
    . rw [Array.getElem?_extract];rw [if_pos (by omega)];congr 1;omega
    . rw [Array.getElem?_eq_none (by simp;omega),Array.getElem?_eq_none (by omega)]
 have e2:(w.drewN (w'.drawn - w.drawn)).drawn=w'.drawn:=by show w.drawn+(w'.drawn - w.drawn)=_;omega
 cases w' with
 | mk heap tape drawn os output=>
  have:=h.os;have:=h.tape;have:=h.output;simp only at *;unfold Sort.grow;rw [show (w.drewN (drawn - w.drawn)).heap=w.heap from rfl,e1];congr
  . exact e2.symm
theorem Zly (x y:Nd)(w:World) :
 Calls Tryz.prog 160 #[.agg #[.int .i64 x.op,.int .i64 x.n,.string x.s,.string x.t],.agg #[.int .i64 y.op,.int .i64 y.n,.string y.s,.string y.t]] w λe w'=>e=.returned (.int .i64 (Jn x y))/\Below w.heap.size w w'/\w.drawn<=w'.drawn:=by
 go_enter Tryz.func160,Tryz.ntmps160
 go_wp2_with fail
 go_region_held3 (λw'=>w'.cell? ⟨w.heap.size,0,none⟩=some (.int .i64 x.op)/\w'.cell? ⟨w.heap.size,1,none⟩=some (.int .i64 x.n)/\w'.cell? ⟨w.heap.size,2,none⟩=some (.string x.s)/\w'.cell? ⟨w.heap.size,3,none⟩=some (.string x.t)/\w'.cell? ⟨w.heap.size+1,0,none⟩=some (.int .i64 y.op)/\w'.cell? ⟨w.heap.size+1,1,none⟩=some (.int .i64 y.n)/\w'.cell? ⟨w.heap.size+1,2,none⟩=some (.string y.s)/\w'.cell? ⟨w.heap.size+1,3,none⟩=some (.string y.t)) (simp [go_sem,World.cell?_alloc_past])
  (first
   | (go_at_call 183;refine (Zgi _ _ _).mono ?_;rintro e w' ⟨rfl,rfl⟩)
   | (go_at_call 134;refine (Tryz.strings_Compare _ _ _).mono ?_;rintro e w' ⟨rfl,rfl⟩)
   | (go_at_call 182;refine (Ztm _ _ (Zfa x.op y.op) (Zfa x.n y.n) (Lib.compareBytes x.s.data.toList y.s.data.toList) (Lib.compareBytes x.t.data.toList y.t.data.toList) _ (by simp [go_sem]) (by simp [go_sem]) (by simp [go_sem]) (by simp [go_sem])).mono ?_;rintro e w' ⟨rfl,rfl⟩))
 all_goals go_wp2
 all_goals go_ret
 all_goals exact ⟨rfl,by (repeat (first | assumption | exact bR | apply bD | apply Za | refine bA ?_ _)),by simp;try omega⟩
end Go.Proofs.YtpheiojmcafolaaGreatDoor
namespace Go.Proofs.YtpheiojmcafolaaGreatDoor
open Go.RowKit
theorem Zlv (A1 A2:Option Addr)(c1 c2:Nat)(xs ys:List Nd)(w:World)(h1:Ye w w.heap.size A1 xs)(h2:Ye w w.heap.size A2 ys)(l1:xs.length<=9223372036854775807)(l2:ys.length<=9223372036854775807) :
 Calls Tryz.prog 159 #[.slice A1 xs.length c1,.slice A2 ys.length c2,.func (.func 160) #[] #[]] w λe w'=>e=.returned (.int .i64 (Zz xs ys))/\Below w.heap.size w w'/\w.drawn<=w'.drawn:=by
 have H1:=Ld h1;have H2:=Ld h2;clear h1 h2;go_enter Tryz.func159,Tryz.ntmps159
 go_wp2_with fail
 go_loopw [13] (λi wr=>∃k:Nat,k<=xs.length/\k<=ys.length/\i=.int .i64 k/\Hid (Zz xs ys=Zz (xs.drop k) (ys.drop k))/\Below w.heap.size w wr/\w.drawn<=wr.drawn) (λi _=>xs.length - (intOf i).toNat)
 case atStart=>exact ⟨0,by omega,by omega,rfl,rfl,Below.refl _ _,nL _⟩
 case round=>
  obtain ⟨k,hk,hk2,rfl,HK,hbel,hdr⟩:=hrel;have hwr:=hbel.size;by_cases hlt:k < xs.length
  . obtain ⟨b,o,rfl,hbl,hc⟩:=(H1.out.below hbel).at_ hlt;obtain ⟨x,hx⟩:∃x,xs[k]? = some x:=⟨_,gE hlt⟩;obtain ⟨d0,d1,d2,d3⟩:=hc k x hx;have HX:Hid (xs.drop k=x :: xs.drop (k+1)):=by
     show _=_;rw [List.drop_eq_getElem_cons hlt];rw [gE hlt] at hx;injection hx with hx;rw [hx]
    clear hc hx;by_cases hlt2:k < ys.length
    . obtain ⟨b2,o2,rfl,hbl2,hc⟩:=(H2.out.below hbel).at_ hlt2;obtain ⟨y,hy⟩:∃y,ys[k]? = some y:=⟨_,gE hlt2⟩;obtain ⟨e0,e1,e2,e3⟩:=hc k y hy;have HY:Hid (ys.drop k=y :: ys.drop (k+1)):=by
       show _=_;rw [List.drop_eq_getElem_cons hlt2];rw [gE hlt2] at hy;injection hy with hy;rw [hy]
      clear hc hy;have hwr:=hbel.size;have g1:b < wr.heap.size:=(by omega);have g2:b2 < wr.heap.size:=(by omega);go_wp2_with (go_at_call 160;refine (Zly x y _).mono ?_;rintro e w1 ⟨rfl,hb1,hd1⟩)
      . go_ret
        have hne:(Jn x y != 0)=true:=(by assumption);have hne':¬Jn x y=0:=(by simpa using hne);exact ⟨Xn (by rw [HK.out,HX.out,HY.out,Zz,if_neg hne']),hbel.trans ((by (repeat (first | assumption | exact bR | apply bD | apply Za | refine bA ?_ _)):Below w.heap.size wr _).trans (hb1.mono (by simp;omega))),by simp at hd1;omega⟩
      . have hne:(Jn x y != 0)=false:=(by assumption);have hne':Jn x y=0:=(by simpa using hne);go_roundw
        case rel=>exact ⟨k+1,by omega,by omega,by go_num,by rw [Hid,HK.out,HX.out,HY.out,Zz,if_pos hne'],hbel.trans ((by (repeat (first | assumption | exact bR | apply bD | apply Za | refine bA ?_ _)):Below w.heap.size wr _).trans (hb1.mono (by simp;omega))),by simp at hd1;omega⟩
        case measure=>simp [intOf];omega
    . have HY:Hid (ys.drop k = []):=List.drop_eq_nil_of_le (by omega);go_wp2_with fail
      go_ret
      exact ⟨Xn (by rw [HK.out,HX.out,HY.out];rfl),hbel.trans (by (repeat (first | assumption | exact bR | apply bD | apply Za | refine bA ?_ _))),by simpa using hdr⟩
  . have HX:Hid (xs.drop k = []):=List.drop_eq_nil_of_le (by omega);by_cases hl:xs.length < ys.length
    . have HY:Hid (∃y l,ys.drop k=y :: l):=⟨_,_,List.drop_eq_getElem_cons (by omega)⟩;go_wp2_with fail
      go_ret
      obtain ⟨y,l,hyl⟩:=HY.out;exact ⟨Xn (by rw [HK.out,HX.out,hyl];rfl),hbel,hdr⟩
    . have HY:Hid (ys.drop k = []):=List.drop_eq_nil_of_le (by omega);go_wp2_with fail
      go_ret
      exact ⟨Xn (by rw [HK.out,HX.out,HY.out];rfl),hbel,hdr⟩
theorem Zr0 (A1 A2:Option Addr)(c1 c2:Nat)(xs ys:List Nd)(w:World)(h1:Ye w w.heap.size A1 xs)(h2:Ye w w.heap.size A2 ys)(l1:xs.length<=9223372036854775807)(l2:ys.length<=9223372036854775807) :
 Calls Tryz.prog 130 #[.slice A1 xs.length c1,.slice A2 ys.length c2] w λe w'=>e=.returned (.int .i64 (Zz xs ys))/\Below w.heap.size w w'/\w.drawn<=w'.drawn:=by
 have H1:=Ld h1;have H2:=Ld h2;clear h1 h2;go_enter Tryz.func130,Tryz.ntmps130
 go_wp2_with (go_at_call 159;refine (Zlv A1 A2 c1 c2 xs ys _ H1.out H2.out l1 l2).mono ?_;rintro e w1 ⟨rfl,hb1,hd1⟩)
 go_ret
 exact ⟨rfl,hb1,hd1⟩
end Go.Proofs.YtpheiojmcafolaaGreatDoor
namespace Go.Proofs.YtpheiojmcafolaaGreatDoor
open Go.RowKit Go.Sort
def Znh (a b:List Nd):Int:=Lib.compareBytes (Xf a).toList (Xf b).toList
theorem Zum {w:World}{n:Nat}:∃q os',w.drewN n=grow (w.drewN q) os':=⟨n,#[],by simp⟩
set_option maxRecDepth 100000 in
theorem Zwf (x y:NsM)(W:World)(hx:x.e≠[])(hy:y.e≠[])(gx:Yq W W.heap.size x)(gy:Yq W W.heap.size y) :
 Calls Tryz.prog 133 #[.slice x.A x.e.length x.c,.slice y.A y.e.length y.c] W λr w'=>r=.returned (.int .i64 (Znh x.e y.e))/\∃q os',w'=grow (W.drewN q) os':=by
 obtain ⟨A1,c1,e1⟩:=x;obtain ⟨A2,c2,e2⟩:=y;obtain ⟨x,xs,rfl⟩:=List.exists_cons_of_ne_nil hx;obtain ⟨y,ys,rfl⟩:=List.exists_cons_of_ne_nil hy;obtain ⟨b1,o1,h1,hb1,hc1⟩:=gx.sl hx;obtain ⟨b2,o2,h2,hb2,hc2⟩:=gy.sl hy;simp only at h1 h2;subst h1 h2;have l1:=gx.le;have l2:=gy.le;have m1:=gx.max;have m2:=gy.max;obtain ⟨-,-,d1,-⟩:=hc1 0 x rfl;obtain ⟨-,-,d2,-⟩:=hc2 0 y rfl;rw [Nat.zero_mul,Nat.add_zero] at d1 d2;simp only [List.length_cons] at l1 l2 m1 m2 ⊢;have i1:(0:Int) < ((xs.length+1:Nat):Int):=by omega
 have i2:(0:Int) < ((ys.length+1:Nat):Int):=by omega
 have HV:Hid (Znh (x :: xs) (y :: ys)=Lib.compareBytes x.s.data.toList y.s.data.toList):=by
  show _=_;unfold Znh;rw [Qb,Qb,ByteArray.toList_eq,ByteArray.toList_eq]
 clear hc1 hc2 gx gy hx hy;generalize xs.length+1=n1 at *;generalize ys.length+1=n2 at *;generalize Znh (x :: xs) (y :: ys)=v at *;go_enter Tryz.func133,Tryz.ntmps133
 go_wp2_with fail
 go_quiet ((go_at_call 134;exact Calls.quiet_of_same (Tryz.strings_Compare _ _ _)))
 go_wp2_with fail
 go_ret
 rw [HV.out];exact ⟨rfl,Zum⟩
end Go.Proofs.YtpheiojmcafolaaGreatDoor
namespace Go.Proofs.YtpheiojmcafolaaGreatDoor
open Go.RowKit
theorem Zco (e:List Nd)(A:Option Addr)(c i r:Nat)(w:World)(hlen:e.length<=200)(hsl:Ye w w.heap.size A e)(hpar:∀x∈e,0<=Zl x/\Zl x<=200)(hsk:skP (e.drop i) 1 i=some r)(hi:i<=e.length) :
 Calls Tryz.prog 131 #[.slice A e.length c,.int .i64 i] w λq w'=>q=.returned (.int .i64 r)/\Below w.heap.size w w':=by
 have HS:=Ld hsl;have HP:=Ld hpar;have HK:=Ld hsk;clear hsl hpar hsk;go_enter Tryz.func131,Tryz.ntmps131
 go_wp2_with fail
 go_loopw [1,5] (λat_ left wr=>∃(a:Nat) (lf:Int),at_=.int .i64 a/\left=.int .i64 lf/\i<=a/\a<=e.length/\0<=lf/\lf<=1+200*(a:Int)/\Hid (skP (e.drop a) lf a=some r)/\Below w.heap.size w wr)
  (λat_ _ _=>e.length - (intOf at_).toNat)
 case atStart=>exact ⟨i,1,rfl,rfl,by omega,hi,by omega,by omega,HK,Below.refl _ _⟩
 case round=>
  obtain ⟨a,lf,rfl,rfl,hia,hal,hlf,hlb,HQ,hbr⟩:=hrel;have hzr:=hbr.size;by_cases hpos:0 < lf
  . have hal2:a < e.length:=by
     rcases Nat.lt_or_ge a e.length with h | h
     . exact h
     . have:=HQ.out;rw [List.drop_eq_nil_of_le h] at this;simp [skP] at this;omega
    obtain ⟨b,o,rfl,hb,hcs⟩:=(HS.out.below hbr).at_ hal2;obtain ⟨x,hx⟩:∃x,e[a]? = some x:=⟨_,gE hal2⟩;obtain ⟨d0,d1,d2,d3⟩:=hcs a x hx;obtain ⟨hp0,hp1⟩:=HP.out x (mG hx);obtain ⟨p,hp⟩:∃p,Zl x=p:=⟨_,rfl⟩;rw [hp] at hp0 hp1;have HQ2:Hid (skP (e.drop (a+1)) (lf+p - 1) (a+1)=some r):=by
     have:=HQ.out;rw [Zo3 hx hpos,hp] at this;exact this
    have htp:∀W,Calls Tryz.prog 106 #[.agg #[.int .i64 x.op,.int .i64 x.n,.string x.s,.string x.t]] W λe w'=>e=.returned (.int .i64 p)/\Below W.heap.size W w':=λW=>by
     rw [<-hp];exact Zds x.op x.n x.s x.t W
    have HTP:=Ld htp;clear hcs hx htp hp;go_wp2_with (go_at_call 106;refine (HTP.out _).mono ?_;rintro q w1 ⟨rfl,hb1⟩)
    go_roundw
    case rel=>exact ⟨a+1,lf+p - 1,by go_num,rfl,by omega,by omega,by omega,by omega,HQ2,hbr.trans (hb1.mono hbr.size)⟩
    case measure=>simp [intOf];omega
  . obtain rfl:lf=0:=(by omega);have HE:Hid (a=r):=(by have:=HQ.out;rw [Zjj] at this;injection this);go_wp2_with fail
    go_ret
    exact ⟨Xn (by rw [HE.out]),hbr⟩
end Go.Proofs.YtpheiojmcafolaaGreatDoor
namespace Go.Proofs.YtpheiojmcafolaaGreatDoor
open Go.RowKit Go.Sort Go.Shelf
theorem Zza (n:Nat)(w:World)(h0:0 < n)(hn:n<=1000):Calls Tryz.prog 167 #[.slice none 0 0,.int .i64 n] w λr w'=>
 ∃v,r=.returned v/\w'.ownsRow w.heap.size 37 4 v 0 []/\RowKit.Below w.heap.size w w':=by
 obtain ⟨j0,hj,hy0,hy1,hy2⟩:=info_parts Ko;refine (Any8.slices_Grow_grow Tryz.growN j0 _ hj hy0 (by omega) none 0 0 n [] w (nL _) (by omega) (by rw [hy2];omega) (by omega) (by simp) (λ_=>rfl) (λa h=>by cases h)).mono ?_;rintro r w' ⟨rfl,rfl⟩;refine ⟨_,rfl,?_,by (repeat (first | assumption | exact bR | apply bD | apply Za | refine bA ?_ _))⟩;have hG:n<=grownCap w (0+n) 0 37:=by have:=grownCap_ge w (0+n) 0 37;omega
 have hG2:=grownCap_le_maxLen w (0+n) 0 37 (by unfold maxLen;omega);have hz:∀k,(Builtin.zeroCells (Value.cells (.agg #[.int .i64 0,.int .i64 0,.string ⟨#[]⟩,.string ⟨#[]⟩])) k).size=k*4:=λk=>by unfold Builtin.zeroCells;simp [Value.cells]
 exact World.ownsRow_made w.drew _ _ (nL _) hG2 (by rw [Array.size_append,Array.size_append,hz,hz];simp only [List.size_toArray,List.length_nil];have hG':n<=grownCap w (0+n) 0 (Tryz.growN_ren.t 25):=hG;omega)
theorem Zuz (w:World):Calls Tryz.prog 167 #[.slice none 0 0,.int .i64 0] w λr w'=>
 ∃v,r=.returned v/\w'.ownsRow w.heap.size 37 4 v 0 []/\RowKit.Below w.heap.size w w':=by
 refine (Any8.slices_Grow_room Tryz.growN none 0 0 0 w (nL _) (by omega) (by omega) (nL _)).mono ?_;rintro r w' ⟨rfl,rfl⟩;exact ⟨_,rfl,World.ownsRow_nil _ _ _ _,RowKit.Below.refl _ _⟩
theorem Zzd (n:Nat)(w:World)(hn:n<=1000):Calls Tryz.prog 167 #[.slice none 0 0,.int .i64 n] w λr w'=>
 ∃v,r=.returned v/\w'.ownsRow w.heap.size 37 4 v 0 []/\RowKit.Below w.heap.size w w':=by
 by_cases h:n=0
 . subst h;exact Zuz w
 . exact Zza n w (by omega) hn
set_option maxRecDepth 100000 in
theorem Za0 (ps:List NsM)(A:Option Addr)(c:Nat)(w:World)(hs:X8 w A ps)(hne:∀p∈ps,p.e≠[])(hl:(Xl ps).length<=1000)(hp:ps.length<=1000) :
 Calls Tryz.prog 137 #[.slice A ps.length c] w λr w'=>X3 w r w' (Xl ps):=by
 obtain ⟨j0,hj,hy0,hy1,hy2⟩:=info_parts Ko;have HS:=Ld hs;have HN:=Ld hne;clear hs hne;go_enter Tryz.func137,Tryz.ntmps137
 go_wp2_with fail
 go_loop [11,3] (λkk sz=>∃(k:Nat) (s:Nat),kk=.int .i64 k/\sz=.int .i64 s/\k<=ps.length/\Hid (s=(Xl (ps.take k)).length)) (λkk _=>ps.length - (intOf kk).toNat)
 case atStart=>exact ⟨0,0,rfl,rfl,by omega,rfl⟩
 case round=>
  obtain ⟨k,s,rfl,rfl,hk,HSZ⟩:=hrel;have hsz:s<=1000:=by have:=Zbo (ps:=ps) k;have:=HSZ.out;omega
  by_cases hlt:k < ps.length
  . obtain ⟨⟨Ap,cp,e⟩,hx⟩:∃p,ps[k]? = some p:=⟨_,gE hlt⟩;have HST:=Ld (Zcs hx);have h2:=Zbo (ps:=ps) (k+1);have hel:s+e.length<=1000:=by
     have h3:=congrArg List.length HST.out;rw [List.length_append] at h3;have h4:=HSZ.out;simp only at h3;omega
    obtain ⟨b,o,rfl,hb,hc0⟩:=V4 HS.out.sl hx;simp only at hc0;have HS2:Hid (s+e.length=(Xl (ps.take (k+1))).length):=by
     show _=_;rw [HST.out,List.length_append,HSZ.out]
    clear hx h2;go_wp2_with fail
    exact ⟨⟨k+1,s+e.length,by go_num,by go_num,by omega,HS2⟩,by simp [intOf];omega⟩
  . have HE:Hid (s=(Xl ps).length):=by
     have:=HSZ.out;rw [List.take_of_length_le (by omega)] at this;exact this
    go_wp2_with fail
    refine (Zzd s w hsz).mono ?_;rintro r w1 ⟨v,rfl,hown,hb1⟩;have HO:=Ld hown;have HS1:=Ld (HS.out.later hb1);have hz1:=hb1.size;clear hown;go_wp2_with fail
    go_loopw [27,6] (λkk vv wr=>∃q:Nat,kk=.int .i64 q/\q<=ps.length/\Hid (wr.ownsRow w.heap.size 37 4 vv (Xl (ps.take q)).length (flat (Xl (ps.take q))))/\RowKit.Below w.heap.size w wr) (λkk _ _=>ps.length - (intOf kk).toNat)
    case atStart=>exact ⟨0,rfl,by omega,by simpa [Xl,flat,Hid] using HO.out,hb1⟩
    case round=>
     obtain ⟨q,rfl,hq,HOq,hbr⟩:=hrel;have hzr:=hbr.size;by_cases hlq:q < ps.length
     . obtain ⟨⟨Ap,cp,e⟩,hx⟩:∃p,ps[q]? = some p:=⟨_,gE hlq⟩;have HST:=Ld (Zcs hx);have h1:=Zbo (ps:=ps) q;have h2:=Zbo (ps:=ps) (q+1);rw [HST.out,List.length_append] at h2;have hee:=HN.out _ (mG hx);have hg:=(HS.out.good _ (mG hx)).later hbr;obtain ⟨b,o,rfl,hb,hc0⟩:=V4 (HS.out.later hbr).sl hx;simp only at hc0 hee h2;obtain ⟨bn,on,rfl,hbn,-⟩:=hg.sl hee;have HC:=Ld (λj u hu=>Ye.flat hg.sl j u hu);generalize Xl (ps.take q)=L at HOq HST h1 h2;clear hg hx hee;go_wp2_with (at_builtin;refine wpList_append_own _ rfl (.tmp 31) (.tmp 32) 22 rfl w.heap.size 37 j0 _ 4 48 Tryz.underlying22 hj hy0 hy1 hy2 rfl (by omega) _ L.length (flat L) rfl HOq.out ⟨bn,on,none⟩ e.length cp (flat e) rfl (Xw e) HC.out (Yp e) (by unfold maxLen;omega) (by omega) (by omega) ?_;intro v1 w2 hown1 hgrow1 _)
       have hb2:RowKit.Below w.heap.size w w2:=hbr.grown hgrow1 hbr.size (λq hq=>(HOq.out.lt q hq).1);have HO2:Hid (w2.ownsRow w.heap.size 37 4 v1 (Xl (ps.take (q+1))).length (flat (Xl (ps.take (q+1))))):=by
        show World.ownsRow _ _ _ _ _ _ _;rw [HST.out,U0,List.length_append];exact hown1
       exact ⟨⟨q+1,by go_num,by omega,HO2,hb2⟩,by simp [intOf];omega⟩
     . have HT:Hid (ps.take q=ps):=(by show _=_;rw [List.take_of_length_le (by omega)]);rw [HT.out] at HOq;obtain ⟨Ao,co,hv,hco,hcm,hso,hnew⟩:=Kr HOq.out;subst hv;have HSO:=Ld hso;have HNW:=Ld hnew;clear hso HOq hnew;go_wp2_with fail
       go_ret
       exact ⟨Ao,co,rfl,hco,hcm,HSO.out,hbr,HNW.out⟩
end Go.Proofs.YtpheiojmcafolaaGreatDoor
namespace Go.Proofs.YtpheiojmcafolaaGreatDoor
open Go.RowKit Go.Sort
def Z0d:List PanicEntry:=[{ v:=.iface 165 (.agg #[]),recovered:=false }]
def X6 (w:World)(o:Option (List Nd))(r:Ending)(w':World):Prop:=
 (∀ys,o=some ys->X3 w r w' ys)/\(o=none->r=.panicked Z0d/\RowKit.Below w.heap.size w w')
theorem X6.twice {w w':World}(h:RowKit.Below w.heap.size w w'):X6 w none (.panicked Z0d) w':=⟨λys h=>by (cases h),λ_=>⟨rfl,h⟩⟩
theorem X6.done {w w':World}{r:Ending}{ys:List Nd}(h:X3 w r w' ys):X6 w (some ys) r w':=⟨λzs e=>by (injection e with e;subst e;exact h),λe=>by (cases e)⟩
theorem X6.own {w w7:World}{v:Value}{n:Nat}{ys:List Nd}(h:w7.ownsRow w.heap.size 37 4 v n (flat ys))(hb:RowKit.Below w.heap.size w w7):X6 w (some ys) (.returned v) w7:=by
 obtain ⟨A,c,hv,h1,h2,h3,h4⟩:=Kr h;have hn:n=ys.length:=by have:=h.1;rw [Xw] at this;omega
 subst hn;subst hv;exact .done ⟨A,c,rfl,h1,h2,h3,hb,h4⟩
def Zh4 (m:Mv)(vals:Bool)(k:Nat)(xs:List Nd):Prop:=∀(w:World) (A:Option Addr) (c:Nat),xs.length<=c->c<=9223372036854775807->Ye w w.heap.size A xs ->
 Calls Tryz.prog 101 #[.agg #[.int .i64 m.what,.string m.fr,.string m.to_,.bool vals],.slice A xs.length c] w (X6 w (Zt m vals k xs))
theorem Zjk:(Tryz.prog.info? 22).map (λi=>(i.zero,i.size,i.bytes))=some (some (.slice none 0 0),1,24):=by kernel_rfl
structure Pcs (m:Mv)(vals:Bool)(k:Nat)(e:List Nd)(x:Nd)(ps:List (List Nd)):Prop where
 he:e=x :: ps.flatten
 hl:e.length<=200
 ex:∀p∈ps,∃b,Ex (.one b) p
 par:∀y∈e,0<=Zl y/\Zl y<=200
 ih:∀p∈ps,Zh4 m vals k p
 out:∀p∈ps,∀q,Zt m vals k p=some q->(∃b,Ex (.one b) q)/\q.length<=p.length
theorem Pcs.len {m:Mv}{vals:Bool}{k:Nat}{e:List Nd}{x:Nd}{ps:List (List Nd)}(h:Pcs m vals k e x ps):e.length=1+ps.flatten.length/\ps.length<=199/\∀p∈ps,p≠[]:=by
 have hne:∀p∈ps,p≠[]:=λp hp=>by obtain ⟨b,hb⟩:=h.ex p hp;obtain ⟨y,r,e,_⟩:=Jb hb;rw [e];simp
 have h1:e.length=1+ps.flatten.length:=by rw [h.he,List.length_cons];omega
 refine ⟨h1,?_,hne⟩;have:ps.length<=ps.flatten.length:=by
  clear h1 h;induction ps with
  | nil=>simp
  | cons p r ih=>
   have h2:=ih λq hq=>hne q (by simp [hq]);have h3:=List.length_pos_iff.2 (hne p (by simp));rw [List.flatten_cons,List.length_append,List.length_cons];omega
 have:=h.hl;omega
structure Zfh (m:Mv)(vals:Bool)(b:Nat)(W:World):Prop where
 c0:W.cell? ⟨b,0,none⟩=some (.int .i64 m.what)
 c1:W.cell? ⟨b,1,none⟩=some (.string m.fr)
 c2:W.cell? ⟨b,2,none⟩=some (.string m.to_)
 c3:W.cell? ⟨b,3,none⟩=some (.bool vals)
theorem Zfh.later {m:Mv}{vals:Bool}{b B:Nat}{W W':World}(h:Zfh m vals b W)(hb:RowKit.Below B W W')(hl:b < B):Zfh m vals b W':=
 ⟨(hb.cell (p:=⟨b,0,none⟩) hl).trans h.c0,(hb.cell (p:=⟨b,1,none⟩) hl).trans h.c1,(hb.cell (p:=⟨b,2,none⟩) hl).trans h.c2,(hb.cell (p:=⟨b,3,none⟩) hl).trans h.c3⟩
theorem Zfh.new (m:Mv)(vals:Bool)(w:World):Zfh m vals w.heap.size (w.alloc (.cells #[.int .i64 m.what,.string m.fr,.string m.to_,.bool vals] 128)):=by
 have h:=Blk.new w 128 #[.int .i64 m.what,.string m.fr,.string m.to_,.bool vals];exact ⟨h.cell 0,h.cell 1,h.cell 2,h.cell 3⟩
set_option maxRecDepth 100000 in
theorem Zpi (m:Mv)(vals:Bool)(k:Nat)(e:List Nd)(x:Nd)(ps:List (List Nd))(hP:Pcs m vals k e x ps)(h6:¬x.op=6)(h5:x.op=5->vals=false):Zh4 m vals (k+1) e:=by
 intro w A c hc hcm hsl;obtain ⟨i0,hi,hz0,hz1,hz2⟩:=info_parts Zjk;obtain ⟨j0,hj,hy0,hy1,hy2⟩:=info_parts Ko;obtain ⟨o,ho⟩:∃o,Zt m vals (k+1) e=o:=⟨_,rfl⟩;have HV:Hid (o=match Zy (ps.map (Zt m vals k)) with | none=>none | some qs=>some (ren m x :: qs.flatten)):=by
  show _=_;rw [<-ho,hP.he,Xa m vals k x hP.ex];cases Zy (ps.map (Zt m vals k)) with
  | none=>rfl
  | some qs=>
   simp only;rw [if_neg h6,if_neg];rintro ⟨h,h'⟩;rw [h5 h] at h';cases h'
 rw [ho];obtain ⟨n1,n2,n3⟩:=hP.len;have hne:e≠[]:=by rw [hP.he];simp
 obtain ⟨b,of,rfl,hb,hcs⟩:=hsl hne;obtain ⟨d0,d1,d2,d3⟩:=hcs 0 x (by rw [hP.he];rfl);rw [Nat.zero_mul,Nat.add_zero] at d0 d1 d2 d3;have hel:=hP.hl;have HP:=Ld hP;have HS:=Ld hsl;have HL1:=Ld n1;have HNE:=Ld n3;have hps:ps.length<=199:=n2;have he0:(0:Int) < (e.length:Int):=by omega
 have e6:(x.op==6)=false:=by simp [h6]
 clear hP hsl n1 n2 n3 ho hne hcs;go_enter Tryz.func101,Tryz.ntmps101
 go_wp2_with fail
 obtain ⟨W,hW⟩:∃W,w.alloc (.cells #[.int .i64 m.what,.string m.fr,.string m.to_,.bool vals] 128)=W:=⟨_,rfl⟩;have hbW:RowKit.Below w.heap.size w W:=by rw [<-hW];(repeat (first | assumption | exact bR | apply bD | apply Za | refine bA ?_ _))
 have hWz:W.heap.size=w.heap.size+1:=by rw [<-hW];simp
 have HMB:Hid (Zfh m vals w.heap.size W):=by rw [<-hW];exact Zfh.new m vals w
 rw [hW];go_loopw [5,6] (λpv av wr=>∃(j:Nat) (ms:List NsM) (a:Nat),av=.int .i64 a/\j<=ps.length/\a<=e.length/\Hid (a=1+(ps.take j).flatten.length)/\Hid (Zy ((ps.take j).map (Zt m vals k))=some (ms.map NsM.e))/\ms.length<=199/\Hid (wr.ownsRow W.heap.size 22 1 pv ms.length (Zr NsM.cells ms))/\Hid (∀y∈ms,Vd wr pv.ownBlock y)/\RowKit.Below W.heap.size W wr) (λ_ av _=>e.length - (intOf av).toNat)
 case atStart=>exact ⟨0,[],1,rfl,by omega,by omega,rfl,rfl,by simp,World.ownsRow_nil _ _ _ _,by simp [Hid],RowKit.Below.refl _ _⟩
 case round=>
  obtain ⟨j,ms,a,rfl,hj1,ha,HA,HM,hms,HO,HN,hbr⟩:=hrel;have hzr:=hbr.size;have hwr:RowKit.Below w.heap.size w wr:=hbW.trans (hbr.mono (by omega));have hml:Hid (ms.length=j):=by
   show _=_;rcases Y5 (Zt m vals k) (ps.take j) with h | ⟨qs,h,h',_⟩
   . rw [HM.out] at h;cases h
   . rw [HM.out] at h;injection h with h
     rw [<-h] at h';rw [List.length_map,List.length_take] at h';omega
  by_cases hlt:j < ps.length
  . obtain ⟨p,hp⟩:∃p,ps[j]? = some p:=⟨_,gE hlt⟩;have hpm:=mG hp;have hpn:=List.length_pos_iff.2 (HNE.out p hpm);obtain ⟨z,hz⟩:∃z,a+p.length=z:=⟨_,rfl⟩;have hpz:Hid (piece e a z=p):=(by show _=_;rw [<-hz,HA.out,HP.out.he];exact Zc1 hp);have hsk:skP (e.drop a) 1 a=some z:=(by rw [<-hz,HA.out,HP.out.he];exact Zi6 hp (HP.out.ex p hpm));have hze:z<=e.length:=by
     have h1:=Vp hp;have h2:=Kv ps (j+1);have:=HA.out;have:=HL1.out;omega
    have hae:a < e.length:=(by omega);have HSK:=Ld (Zco e (some ⟨b,of,none⟩) c a z wr hel ((HS.out.below hwr).more hwr.size) HP.out.par hsk ha);have HZ:=Ld hz;have HPP:=Ld hp;have haz:a < z:=(by omega);have HC:=Ld (show ∀W',RowKit.Below w.heap.size w W'->Calls Tryz.prog 101 #[.agg #[.int .i64 m.what,.string m.fr,.string m.to_,.bool vals],.slice (some ⟨b,of+a*4,none⟩) (z - a) (c - a)] W' (X6 W' (Zt m vals k p)) from λW' hW'=>by
     have h:=HP.out.ih p hpm W' (some ⟨b,of+a*4,none⟩) (c - a) (by omega) (by omega) (by have:=((HS.out.below hW').more hW'.size).piece a z;rw [hpz.out] at this;exact this);have hl:p.length=z - a:=(by omega);rw [hl] at h;exact h)
    clear hsk hz hp;have q:∀(W:World),(Instr.slice 22 (.slice (some ⟨b,of,none⟩) e.length c) (some (.int .i64 (a:Int))) (some (.int .i64 (z:Int))) none).run Tryz.prog W=.ok (.slice (some ⟨b,of+a*4,none⟩) (z - a) (c - a)) W:=by
     intro W;go_simp
     rw [if_pos (show z<=c by omega),if_pos (show a<=z by omega),if_neg (show ¬c=a by omega)]
    go_wp2_with fail
    refine HSK.out.mono ?_;rintro r w1 ⟨rfl,hb1⟩;obtain ⟨hcc1,hff1⟩:=Xi hb1;have hw1:RowKit.Below W.heap.size W w1:=hbr.trans (hb1.mono hzr);go_wp2_with fail
    have HM1:=Ld (HMB.out.later hw1 (by omega));clear hcc1 hff1;refine Yg (S:=Zfh m vals w.heap.size) [false,false,false,false,false,false,true,true,true,false] (by kernel_rfl) (by kernel_rfl) (λ_ _ _ _ _ h=>h) ⟨HM1.out.c0,HM1.out.c1,HM1.out.c2,HM1.out.c3⟩ (λhW'=>?_);simp only [List.zip_cons_cons,List.zip_nil_left];(repeat ((first | (refine Ze (v:=?_) (by rfl) ?_ ?_;rotate_left;(focus (intro W hW;obtain ⟨s0,s1,s2,s3⟩:=hW;go_simp;try with_reducible rfl))) | refine Zd (by rfl) ?_);simp only [Act.put,pA,pB,pC]))
    refine Zc (λK hK=>?_);go_simp
    refine (HC.out w1.drew (hwr.trans (hb1.mono hwr.size)).drew).mono ?_;rintro r w2 hpost;cases hq:Zt m vals k p with
    | none=>
     obtain ⟨rfl,hb2⟩:=hpost.2 hq;clear hpost;have HQ:=Ld hq;clear hq;have HO:Hid (o=none):=(by show _=_;rw [HV.out,Kx _ ps p (mG HPP.out) HQ.out]);dsimp only;clear hK K;go_wp2_with fail
     rw [HO.out];exact ⟨rfl,X6.twice ((hwr.trans (hb1.mono hwr.size)).trans ((Ya hb2).mono (by have:=hb1.size;have:=hwr.size;omega)))⟩
    | some q1=>
     obtain ⟨A2,c2,rfl,hc2,hcm2,hs2,hb2',hn2⟩:=hpost.1 q1 hq;clear hpost;have HQ:=Ld hq;clear hq;have hb2:=Ya hb2';have hv1:=hb1.size;have hv2:=hb2.size;have hw2:RowKit.Below W.heap.size W w2:=hw1.trans (hb2.mono hw1.size);refine hK _ _ (HMB.out.later hw2 (by omega)) ?_;clear hK K;have hw3:RowKit.Below W.heap.size W (w2.alloc (.cells #[.slice A2 q1.length c2] 22)):=hw2.alloc (by omega) _;refine Zc (λK hK=>?_);go_simp
     refine hK _ _ (HMB.out.later hw3 (by omega)) ?_;clear hK K;have HO2:=Ld (Zu (Zu (Zu HO.out hb1) hb2) (by (repeat (first | assumption | exact bR | apply bD | apply Za | refine bA ?_ _)):RowKit.Below w2.heap.size w2 (w2.alloc (.cells #[.slice A2 q1.length c2] 22))));refine Ug (by rfl) (.tmp 19) (.tmp 26) 152 rfl W.heap.size 22 i0 _ 1 24 Tryz.underlying152 hi hz0 hz1 hz2 rfl (by omega) u5 ms.length (Zr NsM.cells ms) rfl HO2.out ⟨w2.heap.size,0,none⟩ 1 1 [.slice A2 q1.length c2] rfl rfl (cell_one_new _ _ _) (by simp [Value.oneCell']) (by unfold maxLen;omega) (by omega) (by simp;omega) ?_;intro v6 w6 hown6 hgrow6 _ hloc6;have hb6:RowKit.Below W.heap.size W w6:=hw3.grown hgrow6 (by simp;omega) (λq hq=>(Yf HO.out hq).1);refine ⟨HMB.out.later hb6 (by omega),?_⟩;(repeat ((first | (refine Ze (v:=?_) (by rfl) ?_ ?_;rotate_left;(focus (intro W hW;obtain ⟨s0,s1,s2,s3⟩:=hW;go_simp;try with_reducible rfl))) | refine Zd (by rfl) ?_);simp only [Act.put,pA,pB,pC]))
     refine Yj ?_;have hq1:=HP.out.out p (mG HPP.out) q1 HQ.out;have HN2:Hid (Vd w2 u5.ownBlock ⟨A2,c2,q1⟩):=Yq.fresh (B:=w1.heap.size) ⟨hs2,hc2,hcm2⟩ hn2 (λb hb=>Nat.lt_of_lt_of_le (Yf HO.out hb).2 hv1);have HN6:=Ld (Zmy (x:=⟨A2,c2,q1⟩) (wr:=w2) (by (repeat (first | assumption | exact bR | apply bD | apply Za | refine bA ?_ _))) (λy hy=>((HN.out y hy).later hb1).later hb2) (HN2.out.later (by (repeat (first | assumption | exact bR | apply bD | apply Za | refine bA ?_ _)))) hgrow6 hloc6);have HM6:Hid (Zy ((ps.take (j+1)).map (Zt m vals k))=some ((ms ++ [(⟨A2,c2,q1⟩:NsM)]).map NsM.e)):=by
      show _=_;rw [Kw _ ps _ j p q1 HM.out HPP.out HQ.out,List.map_append];rfl
     have HA6:Hid (z=1+(ps.take (j+1)).flatten.length):=(by show _=_;rw [Vp HPP.out,<-HZ.out,HA.out];omega);have hm6:(ms ++ [(⟨A2,c2,q1⟩:NsM)]).length<=199:=(by rw [List.length_append,List.length_singleton];have:=hml.out;omega);go_wp2_with fail
     exact ⟨⟨j+1,ms ++ [⟨A2,c2,q1⟩],z,by go_num,by omega,hze,HA6,HM6,hm6,by rw [List.length_append,Q1];exact hown6,HN6,hb6⟩,by simp [intOf];omega⟩
  . have hjp:j=ps.length:=(by omega);have HM2:Hid (Zy (ps.map (Zt m vals k))=some (ms.map NsM.e)):=by
     have:=HM.out;rw [hjp,List.take_of_length_le (nL _)] at this;exact this
    have hae:¬a < e.length:=by
     have h1:=HA.out;have h2:=HL1.out;rw [hjp,List.take_of_length_le (nL _)] at h1;omega
    have HOV:Hid (o=some (ren m x :: Xl ms)):=by
     show _=_;rw [HV.out,HM2.out,Uv rfl]
    have HPE:Hid (∀y∈ms,y.e≠[]):=by
     intro y hy;rcases Y5 (Zt m vals k) ps with h | ⟨qs,h,_,h'⟩
     . rw [HM2.out] at h;cases h
     . rw [HM2.out] at h;injection h with h
       obtain ⟨p,hp,hpq⟩:=h' y.e (by rw [<-h];exact List.mem_map_of_mem hy);obtain ⟨⟨b,hb⟩,_⟩:=HP.out.out p hp _ hpq;obtain ⟨z,r,e,_⟩:=Jb hb;rw [e];simp
    have hcl:(Xl ms).length<=199:=by
     have h1:=Ua _ _ _ HM2.out (λp hp q hq=>(HP.out.out p hp q hq).2);rw [<-Uv rfl] at h1;have:=HL1.out;omega
    obtain ⟨-,Ap,cp,hv,hcp,hcm',hsp⟩:=Y1 Zbv HO.out;subst hv;have HNS:Hid (X8 wr Ap ms):=⟨hsp,λy hy=>(HN.out y hy).good⟩;have hbr':b < wr.heap.size:=(by have:=hwr.size;omega);have HD:Hid (Jj wr b of x):=⟨(hwr.cell (p:=⟨b,of,none⟩) hb).trans d0,(hwr.cell (p:=⟨b,of+1,none⟩) hb).trans d1,(hwr.cell (p:=⟨b,of+2,none⟩) hb).trans d2,(hwr.cell (p:=⟨b,of+3,none⟩) hb).trans d3⟩;have f0:=HD.out.c0;have HMr:=Ld (HMB.out.later hbr (by omega));have f3:=HMr.out.c3;clear d0 d1 d2 d3 hsp HO HN HM HV hml HA;have hlw:w.heap.size < wr.heap.size:=(by omega);have HNM:=Ld (λW=>Zhs m x W);have qi:∀W,(Instr.indexAt 22 (.slice (some ⟨b,of,none⟩) e.length c) (.int .i64 0)).run Tryz.prog W=.ok (.pointer (some ⟨b,of,none⟩)) W:=by
     intro W;go_simp
     intro h;rw [h] at he0;simp at he0
    have hor:((x.op==5)=true/\vals=false)\/(x.op==5)=false:=by
     by_cases h:x.op=5
     . exact .inl ⟨by simp [h],h5 h⟩
     . exact .inr (by simp [h])
    clear h5;rcases hor with ⟨e5,hvf⟩ | e5
    . rw [hvf] at f3;have HVF:=Ld hvf;clear hvf;go_wp2_with fail
      refine Yg (S:=λW'=>Zfh m vals w.heap.size W'/\Jj W' b of x) [false,false,false,false,false,true,true,false] (by kernel_rfl) (by kernel_rfl) (λ_ _ _ _ _ h=>h) ⟨⟨HMr.out.c0,HMr.out.c1,HMr.out.c2,HMr.out.c3⟩,⟨HD.out.c0,HD.out.c1,HD.out.c2,HD.out.c3⟩⟩ (λhW'=>?_);simp only [List.zip_cons_cons,List.zip_nil_left];(repeat ((first | (refine Ze (v:=?_) (by rfl) ?_ ?_;rotate_left;(focus (intro W hW;obtain ⟨⟨s0,s1,s2,s3⟩,⟨s4,s5,s6,s7⟩⟩:=hW;go_simp;try with_reducible rfl))) | refine Zd (by rfl) ?_);simp only [Act.put,pA,pB,pC]))
      refine Zc (λK hK=>?_);go_simp
      refine (HNM.out _).mono ?_;rintro r w2 ⟨rfl,hb2'⟩;have hb2:=Ya hb2';refine hK _ _ ⟨HMr.out.later hb2 hlw,⟨(hb2.cell (p:=⟨b,of,none⟩) hbr').trans HD.out.c0,(hb2.cell (p:=⟨b,of+1,none⟩) hbr').trans HD.out.c1,(hb2.cell (p:=⟨b,of+2,none⟩) hbr').trans HD.out.c2,(hb2.cell (p:=⟨b,of+3,none⟩) hbr').trans HD.out.c3⟩⟩ ?_;clear hK K;have hb3:RowKit.Below w.heap.size w w2:=hwr.trans (hb2.mono hwr.size);have hz3:=hb3.size;refine Zc (λK hK=>?_);go_simp
      refine hK _ _ ⟨(HMr.out.later hb2 hlw).later (RowKit.Below.alloc (RowKit.Below.refl w2.heap.size w2) (nL _) _) (by have:=hb2.size;omega),HD.out.keep (B:=wr.heap.size) hbr' (λp hp=>((RowKit.Below.alloc (RowKit.Below.refl w2.heap.size w2) (nL _) _).cell (by have:=hb2.size;omega)).trans (hb2.cell hp))⟩ ?_;clear hK K;(repeat ((first | (refine Ze (v:=?_) (by rfl) ?_ ?_;rotate_left;(focus (intro W hW;obtain ⟨⟨s0,s1,s2,s3⟩,⟨s4,s5,s6,s7⟩⟩:=hW;go_simp;try with_reducible rfl))) | refine Zd (by rfl) ?_);simp only [Act.put,pA,pB,pC]))
      refine Yj ?_;have HOL:=Ld (World.ownsRow_lit (base:=w.heap.size) (e:=37) (size:=4) w2 #[.int .i64 (ren m x).op,.int .i64 (ren m x).n,.string (ren m x).s,.string (ren m x).t] 1 (by omega) (by decide) (by simp));have hb4:RowKit.Below w2.heap.size w2 (w2.alloc (.cells #[.int .i64 (ren m x).op,.int .i64 (ren m x).n,.string (ren m x).s,.string (ren m x).t] 37)):=(by (repeat (first | assumption | exact bR | apply bD | apply Za | refine bA ?_ _)));have HN4:=Ld ((HNS.out.later hb2).later hb4);have hb5:RowKit.Below w.heap.size w (w2.alloc (.cells #[.int .i64 (ren m x).op,.int .i64 (ren m x).n,.string (ren m x).s,.string (ren m x).t] 37)):=hb3.trans (hb4.mono hz3);generalize w2.alloc (.cells #[.int .i64 (ren m x).op,.int .i64 (ren m x).n,.string (ren m x).s,.string (ren m x).t] 37)=w3 at *;clear hb4;go_wp2_with fail
      refine (Za0 ms Ap cp w3 HN4.out HPE.out (by omega) (by omega)).mono ?_;rintro r w4 ⟨A4,c4,rfl,h41,h42,h43,h44,h45⟩;have hb6:RowKit.Below w.heap.size w w4:=hb5.trans (h44.mono hb5.size);have HO4:=Ld (Zu HOL.out h44);by_cases hcn:Xl ms = []
      . have HCN:=Ld hcn;rw [hcn] at h41 h43;try rw [hcn]
        clear hcn h43 h44 h45 h41;cases A4 with
        | none=>
         go_wp2_with (at_builtin;refine Ut rfl (.tmp 88) (.tmp 90) 22 rfl w.heap.size 37 j0 4 Tryz.underlying22 hj _ 1 _ rfl HO4.out c4 rfl ?_)
         go_ret
         rw [HOV.out,HCN.out];exact X6.own (n:=1) HO4.out hb6
        | some ad=>
         go_wp2_with (at_builtin;refine wpList_append_own _ rfl (.tmp 88) (.tmp 90) 22 rfl w.heap.size 37 j0 _ 4 48 Tryz.underlying22 hj hy0 hy1 hy2 rfl (by omega) _ 1 _ rfl HO4.out ad 0 c4 [] rfl rfl (by simp) (by simp) (by unfold maxLen;omega) (by omega) (by have:=hb6.size;omega) ?_;intro v7 w7 hown7 hgrow7 _)
         have hb7:RowKit.Below w.heap.size w w7:=hb6.grown hgrow7 hb6.size (λq hq=>(HO4.out.lt q hq).1);go_wp2_with fail
         have HO7:=Ld hown7;clear hown7;go_ret
         rw [HOV.out,HCN.out];exact X6.own (n:=1) (by have:=HO7.out;rw [List.append_nil] at this;exact this) hb7
      . obtain ⟨b4,o4,rfl,hb4,hs4⟩:=h43 hcn;have HS4:=Ld (λj u hu=>Ye.flat h43 j u hu);clear h43 h44 h45 hs4 hcn;go_wp2_with (at_builtin;refine wpList_append_own _ rfl (.tmp 88) (.tmp 90) 22 rfl w.heap.size 37 j0 _ 4 48 Tryz.underlying22 hj hy0 hy1 hy2 rfl (by omega) _ 1 _ rfl HO4.out ⟨b4,o4,none⟩ (Xl ms).length c4 (flat (Xl ms)) rfl (Xw _) HS4.out (Yp _) (by unfold maxLen;omega) (by omega) (by have:=hb6.size;omega) ?_;intro v7 w7 hown7 hgrow7 _)
        have hb7:RowKit.Below w.heap.size w w7:=hb6.grown hgrow7 hb6.size (λq hq=>(HO4.out.lt q hq).1);go_wp2_with fail
        have HO7:=Ld hown7;clear hown7;go_ret
        rw [HOV.out];refine X6.own (n:=1+(Xl ms).length) ?_ hb7;have:=HO7.out;simpa [flat,Nd.cells] using this
    ·
     go_wp2_with fail
     refine Yg (S:=λW'=>Zfh m vals w.heap.size W'/\Jj W' b of x) [false,false,false,false,false,true,true,false] (by kernel_rfl) (by kernel_rfl) (λ_ _ _ _ _ h=>h) ⟨⟨HMr.out.c0,HMr.out.c1,HMr.out.c2,HMr.out.c3⟩,⟨HD.out.c0,HD.out.c1,HD.out.c2,HD.out.c3⟩⟩ (λhW'=>?_);simp only [List.zip_cons_cons,List.zip_nil_left];(repeat ((first | (refine Ze (v:=?_) (by rfl) ?_ ?_;rotate_left;(focus (intro W hW;obtain ⟨⟨s0,s1,s2,s3⟩,⟨s4,s5,s6,s7⟩⟩:=hW;go_simp;try with_reducible rfl))) | refine Zd (by rfl) ?_);simp only [Act.put,pA,pB,pC]))
     refine Zc (λK hK=>?_);go_simp
     refine (HNM.out _).mono ?_;rintro r w2 ⟨rfl,hb2'⟩;have hb2:=Ya hb2';refine hK _ _ ⟨HMr.out.later hb2 hlw,⟨(hb2.cell (p:=⟨b,of,none⟩) hbr').trans HD.out.c0,(hb2.cell (p:=⟨b,of+1,none⟩) hbr').trans HD.out.c1,(hb2.cell (p:=⟨b,of+2,none⟩) hbr').trans HD.out.c2,(hb2.cell (p:=⟨b,of+3,none⟩) hbr').trans HD.out.c3⟩⟩ ?_;clear hK K;have hb3:RowKit.Below w.heap.size w w2:=hwr.trans (hb2.mono hwr.size);have hz3:=hb3.size;refine Zc (λK hK=>?_);go_simp
     refine hK _ _ ⟨(HMr.out.later hb2 hlw).later (RowKit.Below.alloc (RowKit.Below.refl w2.heap.size w2) (nL _) _) (by have:=hb2.size;omega),HD.out.keep (B:=wr.heap.size) hbr' (λp hp=>((RowKit.Below.alloc (RowKit.Below.refl w2.heap.size w2) (nL _) _).cell (by have:=hb2.size;omega)).trans (hb2.cell hp))⟩ ?_;clear hK K;(repeat ((first | (refine Ze (v:=?_) (by rfl) ?_ ?_;rotate_left;(focus (intro W hW;obtain ⟨⟨s0,s1,s2,s3⟩,⟨s4,s5,s6,s7⟩⟩:=hW;go_simp;try with_reducible rfl))) | refine Zd (by rfl) ?_);simp only [Act.put,pA,pB,pC]))
     refine Yj ?_;have HOL:=Ld (World.ownsRow_lit (base:=w.heap.size) (e:=37) (size:=4) w2 #[.int .i64 (ren m x).op,.int .i64 (ren m x).n,.string (ren m x).s,.string (ren m x).t] 1 (by omega) (by decide) (by simp));have hb4:RowKit.Below w2.heap.size w2 (w2.alloc (.cells #[.int .i64 (ren m x).op,.int .i64 (ren m x).n,.string (ren m x).s,.string (ren m x).t] 37)):=(by (repeat (first | assumption | exact bR | apply bD | apply Za | refine bA ?_ _)));have HN4:=Ld ((HNS.out.later hb2).later hb4);have hb5:RowKit.Below w.heap.size w (w2.alloc (.cells #[.int .i64 (ren m x).op,.int .i64 (ren m x).n,.string (ren m x).s,.string (ren m x).t] 37)):=hb3.trans (hb4.mono hz3);generalize w2.alloc (.cells #[.int .i64 (ren m x).op,.int .i64 (ren m x).n,.string (ren m x).s,.string (ren m x).t] 37)=w3 at *;clear hb4;go_wp2_with fail
     refine (Za0 ms Ap cp w3 HN4.out HPE.out (by omega) (by omega)).mono ?_;rintro r w4 ⟨A4,c4,rfl,h41,h42,h43,h44,h45⟩;have hb6:RowKit.Below w.heap.size w w4:=hb5.trans (h44.mono hb5.size);have HO4:=Ld (Zu HOL.out h44);by_cases hcn:Xl ms = []
     . have HCN:=Ld hcn;rw [hcn] at h41 h43;try rw [hcn]
       clear hcn h43 h44 h45 h41;cases A4 with
       | none=>
        go_wp2_with (at_builtin;refine Ut rfl (.tmp 88) (.tmp 90) 22 rfl w.heap.size 37 j0 4 Tryz.underlying22 hj _ 1 _ rfl HO4.out c4 rfl ?_)
        go_ret
        rw [HOV.out,HCN.out];exact X6.own (n:=1) HO4.out hb6
       | some ad=>
        go_wp2_with (at_builtin;refine wpList_append_own _ rfl (.tmp 88) (.tmp 90) 22 rfl w.heap.size 37 j0 _ 4 48 Tryz.underlying22 hj hy0 hy1 hy2 rfl (by omega) _ 1 _ rfl HO4.out ad 0 c4 [] rfl rfl (by simp) (by simp) (by unfold maxLen;omega) (by omega) (by have:=hb6.size;omega) ?_;intro v7 w7 hown7 hgrow7 _)
        have hb7:RowKit.Below w.heap.size w w7:=hb6.grown hgrow7 hb6.size (λq hq=>(HO4.out.lt q hq).1);go_wp2_with fail
        have HO7:=Ld hown7;clear hown7;go_ret
        rw [HOV.out,HCN.out];exact X6.own (n:=1) (by have:=HO7.out;rw [List.append_nil] at this;exact this) hb7
     . obtain ⟨b4,o4,rfl,hb4,hs4⟩:=h43 hcn;have HS4:=Ld (λj u hu=>Ye.flat h43 j u hu);clear h43 h44 h45 hs4 hcn;go_wp2_with (at_builtin;refine wpList_append_own _ rfl (.tmp 88) (.tmp 90) 22 rfl w.heap.size 37 j0 _ 4 48 Tryz.underlying22 hj hy0 hy1 hy2 rfl (by omega) _ 1 _ rfl HO4.out ⟨b4,o4,none⟩ (Xl ms).length c4 (flat (Xl ms)) rfl (Xw _) HS4.out (Yp _) (by unfold maxLen;omega) (by omega) (by have:=hb6.size;omega) ?_;intro v7 w7 hown7 hgrow7 _)
       have hb7:RowKit.Below w.heap.size w w7:=hb6.grown hgrow7 hb6.size (λq hq=>(HO4.out.lt q hq).1);go_wp2_with fail
       have HO7:=Ld hown7;clear hown7;go_ret
       rw [HOV.out];refine X6.own (n:=1+(Xl ms).length) ?_ hb7;have:=HO7.out;simpa [flat,Nd.cells] using this
end Go.Proofs.YtpheiojmcafolaaGreatDoor
