/-
 PLAIN LAWS: moved values, piece by piece.
-/
import Derived.Test.YtpheiojmcafolaaGreatDoorSz14
set_option maxRecDepth 100000
set_option maxHeartbeats 25600000
namespace Go.Proofs.YtpheiojmcafolaaGreatDoor
open Go.RowKit
theorem Za3 (m:Mv)(vals:Bool):∀(N:Nat) (xs:List Nd) (b:Bool),xs.length<=N->Ex (.one b) xs->∀k j,xs.length<=k->xs.length<=j->Zt m vals k xs=Zt m vals j xs
 | 0,xs,b,hN,hx=>by obtain ⟨x,r,rfl,_,_⟩:=Jb hx;simp at hN
 | N+1,xs,b,hN,hx=>by
  obtain ⟨n,ps,rfl,h7,hs,hl,hp⟩:=Zh1 hx;intro k j hk hj;rw [List.length_cons] at hN hk hj;match k,hk,j,hj with
  | k+1,hk,j+1,hj=>
   have e:ps.map (Zt m vals k)=ps.map (Zt m vals j):=List.map_congr_left λp hpm=>by
    have:=Uc hpm;exact Za3 m vals N p _ (by omega) (hp p hpm) k j (by omega) (by omega)
   rw [Xa m vals k n (λp hpm=>⟨_,hp p hpm⟩),Xa m vals j n (λp hpm=>⟨_,hp p hpm⟩),e]
def mvV (m:Mv)(v:List Nd):List Nd:=(Zt m true v.length v).getD []
def FrL (m:Mv)(e:List Nd):Prop:=∀x∈e,Z7 m x=true->x.s.toList≠m.to_.toList
theorem FrL.sub {m:Mv}{a b:List Nd}(h:FrL m b)(hs:∀x∈a,x∈b):FrL m a:=λx hx=>h x (hs x hx)
structure GV (m:Mv)(v:List Nd):Prop where
 ok:Zb v=0
 fr:FrL m v
variable {m : Mv}
theorem GV.mv (hm:Zq m=0){v:List Nd}(h:GV m v):Zt m true v.length v=some (mvV m v)/\Zb (mvV m v)=0/\(mvV m v).length=v.length/\(mvV m v).head? = v.head?.map (ren m)/\Zt (Qm m) true v.length (mvV m v)=some v:=by
 obtain ⟨h1,h2⟩:=(Z0 v).1 h.ok;obtain ⟨x,a1,a2,a3,a5,a4⟩:=Z28 hm h2 h1 h.fr v.length (nL _);have e:mvV m v=x:=by unfold mvV;rw [a1];rfl
 rw [e];exact ⟨a1,(Z0 x).2 ⟨by omega,a2⟩,a3,a5,a4⟩
theorem Zie (hm:Zq m=0){v w:List Nd}(hv:GV m v)(hw:GV m w):mvV m v=mvV m w ↔ v=w:=by
 constructor
 . intro e;have h1:=(hv.mv hm).2.2.2.2;have h2:=(hw.mv hm).2.2.2.2;have hl:v.length=w.length:=by rw [<-(hv.mv hm).2.2.1,e,(hw.mv hm).2.2.1]
   rw [e,hl,h2] at h1;injection h1 with h1
   exact h1.symm
 . rintro rfl;rfl
theorem Zoz (v:List Nd):opH v=(v.head?.map Nd.op).getD 0:=by cases v <;> rfl
theorem Zs5 (v:List Nd):nH v=(v.head?.map Nd.n).getD 0:=by cases v <;> rfl
theorem Jh (hm:Zq m=0){v:List Nd}(h:GV m v):opH (mvV m v)=opH v:=by
 rw [Zoz,(h.mv hm).2.2.2.1,Zoz];cases v.head? with
 | none=>rfl
 | some x=>exact (V9 m x).1
theorem Zkk (hm:Zq m=0){v:List Nd}(h:GV m v):nH (mvV m v)=nH v:=by
 rw [Zs5,(h.mv hm).2.2.2.1,Zs5];cases v.head? with
 | none=>rfl
 | some x=>exact (V9 m x).2.1
theorem Zjo (m:Mv){n:Nd}(h5:¬n.op=5)(h6:¬n.op=6):mvV m [n] = [ren m n]:=by
 unfold mvV;rw [show ([n]:List Nd).length=0+1 from rfl,Zag m true 0 h5 h6];rfl
theorem Zdi {x:Nd}(h:Z7 m x=false):ren m x=x:=by unfold ren;rw [if_neg (by simp [h])]
theorem Ztb {v:List Nd}(h:Zb v=0)(h5:¬opH v=5)(h6:¬opH v=6):∃x,v = [x]/\Zj x=true:=by
 obtain ⟨_,hx⟩:=(Z0 v).1 h;cases hx with
 | leaf n hs _ _ _=>exact ⟨n,rfl,hs⟩
 | set n ps _ hh _ _ _=>exact absurd hh h5
 | rcd n ps _ hh _ _ _ _ _=>exact absurd hh h6
theorem Zgc (m:Mv){v:List Nd}(h:Zb v=0)(ho:opH v=1\/opH v=2\/opH v=3):mvV m v=v:=by
 obtain ⟨x,rfl,_⟩:=Ztb h (by omega) (by omega);have ho':x.op=1\/x.op=2\/x.op=3:=ho;rw [Zjo m (by omega) (by omega),Zdi (by unfold Z7;rw [if_neg (by omega),if_neg (by omega)])]
theorem Zpn {n:Nd}(hs:Zj n=true)(h:n.op=5\/n.op=6):n=⟨n.op,n.n,⟨#[]⟩,⟨#[]⟩⟩:=by
 have hs':n.s.toList = []/\n.t.toList = []:=by
  unfold Zj at hs;rw [if_neg (by omega),if_neg (by omega),if_neg (by omega),if_neg (by omega),if_pos (by omega)] at hs;simp at hs;exact ⟨hs.1.2,hs.2⟩
 have e1:n.s=⟨#[]⟩:=Uy (by rw [hs'.1,ByteArray.toList_eq]);have e2:n.t=⟨#[]⟩:=Uy (by rw [hs'.2,ByteArray.toList_eq]);cases n;simp at e1 e2;simp [e1,e2]
theorem Zts {v:List Nd}(h:Zb v=0)(h5:opH v=5):∃ps:List (List Nd),v=⟨5,ps.length,⟨#[]⟩,⟨#[]⟩⟩ :: ps.flatten/\(∀p∈ps,Zb p=0)/\ps.Pairwise LtN/\Z8 v=ps:=by
 obtain ⟨hl,hx⟩:=(Z0 v).1 h;cases hx with
 | leaf n hs h5' _ _=>exact absurd h5 h5'
 | rcd n ps _ h6 _ _ _ _ _=>have:n.op=5:=h5;omega
 | set n ps hs h5' hn hv hc=>
  rw [List.length_cons] at hl;refine ⟨ps,?_,λp hp=>(Z0 p).2 ⟨by have:=Vk hp;omega,hv p hp⟩,(Zjr hc).1,Xr ps (λp hp=>⟨_,Vf (hv p hp)⟩) _ (nL _)⟩;have:=Zpn hs (.inl h5');rw [h5',hn] at this;rw [<-this]
theorem Znd {v:List Nd}(h:Zb v=0)(h6:opH v=6):∃ps:List (List Nd),v=⟨6,ps.length,⟨#[]⟩,⟨#[]⟩⟩ :: ps.flatten/\(∀p∈ps,Fx p)/\ExK true ⟨#[]⟩ ps/\Z8 v=ps:=by
 obtain ⟨hl,hx⟩:=(Z0 v).1 h;cases hx with
 | leaf n hs _ h6' _=>exact absurd h6 h6'
 | set n ps _ h5 _ _ _=>have:n.op=6:=h6;omega
 | rcd n ps hs h6' hn h1 h2 h3 hc=>
  have hf:∀p∈ps,Fx p:=λp hp=>by
   obtain ⟨f,u,rfl⟩:=h1 p hp;exact ⟨f,u,rfl,(h2 f u hp).1,(h2 f u hp).2,h3 f u hp⟩
  have hex:∀p∈ps,Ex (.one true) p:=λp hp=>by
   obtain ⟨f,u,rfl,a,b,c⟩:=hf p hp;exact Zbm a b (Vf c)
  refine ⟨ps,?_,hf,Zem hex hc,Xr ps (λp hp=>⟨_,hex p hp⟩) _ (nL _)⟩;have:=Zpn hs (.inr h6');rw [h6',hn] at this;rw [<-this]
theorem GV.part {v p:List Nd}(h:GV m v)(h5:opH v=5)(hp:p∈Z8 v):GV m p:=by
 obtain ⟨ps,e,h1,_,h3⟩:=Zts h.ok h5;rw [h3] at hp;refine ⟨h1 p hp,h.fr.sub λx hx=>?_⟩;rw [e];exact List.mem_cons_of_mem _ (List.mem_flatten.2 ⟨p,hp,hx⟩)
theorem Xh {qs:List (List Nd)}{p:List Nd}:p∈Yd qs ↔ p∈qs:=by
 have key:∀(l:List (List Nd)) (a x:List Nd),x∈l->x=a\/x∈Je a l:=by
  intro l;induction l with
  | nil=>intro a x hx;cases hx
  | cons b r ih=>
   intro a x hx;rw [Je];split
   . rename_i h0;have hab:a=b:=Us.eq a b h0;rcases List.mem_cons.1 hx with rfl | hx
     . exact .inl hab.symm
     . exact ih a x hx
   . rcases List.mem_cons.1 hx with rfl | hx
     . exact .inr (List.mem_cons_self ..)
     . rcases ih b x hx with rfl | h
       . exact .inr (List.mem_cons_self ..)
       . exact .inr (List.mem_cons_of_mem _ h)
 refine ⟨Xk,λh=>?_⟩;have h':p∈qs.mergeSort Za5:=(List.mergeSort_perm _ _).mem_iff.2 h;unfold Yd;cases hq:qs.mergeSort Za5 with
 | nil=>rw [hq] at h';cases h'
 | cons a r=>
  rw [hq] at h';rw [Zav];rcases List.mem_cons.1 h' with rfl | h'
  . exact List.mem_cons_self ..
  . rcases key r a p h' with rfl | h
    . exact List.mem_cons_self ..
    . exact List.mem_cons_of_mem _ h
theorem Z3n {ps qs:List (List Nd)}(h1:ps.Pairwise LtN)(h2:qs.Pairwise LtN)(h:∀p,p∈ps ↔ p∈qs):ps=qs:=
 Z0u Qa Zcv h1 h2 ((List.perm_ext_iff_of_nodup (Zf0 h1) (Zf0 h2)).2 h)
theorem Zl5 {ps qs:List (List Nd)}(h:∀p,p∈ps ↔ p∈qs):Yd ps=Yd qs:=
 Z3n (U1 _) (U1 _) λp=>by rw [Xh,Xh,h]
theorem Zff (hm:Zq m=0){v:List Nd}(h:GV m v)(h5:opH v=5):mvV m v=Yb ((Z8 v).map (mvV m))/\Z8 (mvV m v)=Yd ((Z8 v).map (mvV m)):=by
 obtain ⟨ps,e,h1,h2,h3⟩:=Zts h.ok h5;have hp:∀p∈ps,GV m p:=λp hp=>h.part h5 (by rw [h3];exact hp);have hl:ps.flatten.length+1<=200:=by have:=((Z0 v).1 h.ok).1;rw [e,List.length_cons] at this;exact this
 have hmap:ps.map (Zt m true ps.flatten.length)=(ps.map (mvV m)).map some:=by
  rw [List.map_map];refine List.map_congr_left λp hpm=>?_;show Zt m true ps.flatten.length p=some (mvV m p);rw [<-((hp p hpm).mv hm).1];exact Za3 m true _ p false (nL _) (Vf ((Z0 p).1 (h1 p hpm)).2) _ _ (Vk hpm) (nL _)
 have hvq:∀q∈ps.map (mvV m),Vx q:=λq hq=>by obtain ⟨p,hpm,rfl⟩:=List.mem_map.1 hq;exact ((Z0 _).1 ((hp p hpm).mv hm).2.1).2
 have hfl:=Jc ps (F:=mvV m) λp hpm=>((hp p hpm).mv hm).2.2.1;obtain ⟨a1,a2,a3⟩:=Zch hvq (by omega);have hmv:mvV m v=Yb (ps.map (mvV m)):=by
  have h0:=(h.mv hm).1;rw [e,List.length_cons,Xa m true _ _ (λp hpm=>⟨_,Vf ((Z0 p).1 (h1 p hpm)).2⟩),hmap,Qn] at h0;simp only [show ¬(5:Int)=6 from by omega,if_false,true_and,if_true,a1] at h0;injection h0 with h0
  rw [e];exact h0.symm
 rw [h3,hmv];refine ⟨rfl,?_⟩;unfold Yb;exact Xr _ (λp hpm=>⟨_,Vf (hvq p (Xk hpm))⟩) _ (nL _)
def mvF (m:Mv)(p:List Nd):List Nd:=match p with
 | []=>[]
 | f :: v=>ren m f :: mvV m v
theorem Zt5 (hm:Zq m=0){v:List Nd}(h:GV m v)(h6:opH v=6):mvV m v=⟨6,(Z8 v).length,⟨#[]⟩,⟨#[]⟩⟩ :: (Xp ((Z8 v).map (mvF m))).flatten/\Z8 (mvV m v)=Xp ((Z8 v).map (mvF m))/\(Zi ((Z8 v).map (mvF m))).Nodup:=by
 obtain ⟨ps,e,h1,h2,h3⟩:=Znd h.ok h6;have hl:ps.flatten.length+1<=200:=by have:=((Z0 v).1 h.ok).1;rw [e,List.length_cons] at this;exact this
 have hfr:∀p∈ps,FrL m p:=λp hp=>h.fr.sub λx hx=>by rw [e];exact List.mem_cons_of_mem _ (List.mem_flatten.2 ⟨p,hp,hx⟩)
 have hpv:∀p∈ps,∃f u,p=f :: u/\f.op=7/\Zj f=true/\GV m u:=λp hp=>by
  obtain ⟨f,u,rfl,a,b,c⟩:=h1 p hp;have:=Vk hp;rw [List.length_cons] at this;exact ⟨f,u,rfl,a,b,(Z0 u).2 ⟨by omega,c⟩,(hfr _ hp).sub λx hx=>List.mem_cons_of_mem _ hx⟩
 have hex:∀p∈ps,Ex (.one true) p:=λp hp=>by
  obtain ⟨f,u,rfl,a,b,c⟩:=h1 p hp;exact Zbm a b (Vf c)
 have hmap:ps.map (Zt m true ps.flatten.length)=(ps.map (mvF m)).map some:=by
  rw [List.map_map];refine List.map_congr_left λp hpm=>?_;show Zt m true ps.flatten.length p=some (mvF m p);rw [Za3 m true _ p true (nL _) (hex p hpm) ps.flatten.length p.length (Vk hpm) (nL _)];obtain ⟨f,u,rfl,a,b,c⟩:=hpv p hpm;rw [List.length_cons,Zas m true _ (Vf ((Z0 u).1 c.ok).2) a,(c.mv hm).1];rfl
 have heq:∀q∈ps.map (mvF m),Ex (.one true) q:=λq hq=>by
  obtain ⟨p,hpm,rfl⟩:=List.mem_map.1 hq;obtain ⟨f,u,rfl,a,b,c⟩:=hpv p hpm;exact Zbm (by rw [(V9 m f).1];exact a) (Vw hm b) (Vf ((Z0 _).1 (c.mv hm).2.1).2)
 have h0:=(h.mv hm).1;rw [e,List.length_cons,Xa m true _ _ (λp hpm=>⟨_,hex p hpm⟩),hmap,Qn] at h0;simp only [if_true] at h0;split at h0
 . rename_i hnd;have hren:ren m ⟨6,ps.length,⟨#[]⟩,⟨#[]⟩⟩=⟨6,ps.length,⟨#[]⟩,⟨#[]⟩⟩:=Zdi rfl;rw [hren] at h0;injection h0 with h0
   rw [h3];have hmv:mvV m v=⟨6,ps.length,⟨#[]⟩,⟨#[]⟩⟩ :: (Xp (ps.map (mvF m))).flatten:=by rw [e,<-h0]
   refine ⟨hmv,?_,hnd⟩;rw [hmv];exact Xr _ (λp hpm=>⟨_,heq p ((Zn _).mem_iff.1 hpm)⟩) _ (nL _)
 . cases h0
variable {m : Mv}
def X4 (m:Mv)(r r':Rs (List Nd)):Prop:=(∃v,r=.ok v/\GV m v/\r'=.ok (mvV m v))\/∃k k',r=.bad k/\r'=.bad k'
def Zrt (r r':Rs Bool):Prop:=(∃b,r=.ok b/\r'=.ok b)\/∃k k',r=.bad k/\r'=.bad k'
theorem X4.ok {v:List Nd}(h:GV m v):X4 m (.ok v) (.ok (mvV m v)):=.inl ⟨v,rfl,h,rfl⟩
theorem X4.bad (k k':Int):X4 m (.bad k) (.bad k'):=.inr ⟨k,k',rfl,rfl⟩
theorem X4.bind {r r':Rs (List Nd)}{f f':List Nd->Rs (List Nd)}(h:X4 m r r')(hf:∀v,GV m v->X4 m (f v) (f' (mvV m v))):X4 m (r.bind f) (r'.bind f'):=by
 rcases h with ⟨v,rfl,hv,rfl⟩ | ⟨k,k',rfl,rfl⟩
 . exact hf v hv
 . exact .bad k k'
theorem X4.must (hm:Zq m=0){r r':Rs (List Nd)}(h:X4 m r r')(op:Int):X4 m (Vi r op) (Vi r' op):=by
 unfold Vi;refine h.bind λv hv=>?_;rw [Jh hm hv];by_cases e:opH v=op
 . rw [if_pos e,if_pos e];exact .ok hv
 . rw [if_neg e,if_neg e];exact .bad _ _
theorem X4.mustOf (hm:Zq m=0){v:List Nd}(hv:GV m v)(op:Int){f f':List Nd->Rs (List Nd)}(hf:opH v=op->X4 m (f v) (f' (mvV m v))):X4 m ((Vi (.ok v) op).bind f) ((Vi (.ok (mvV m v)) op).bind f'):=by
 unfold Vi;show X4 m ((if opH v=op then Rs.ok v else Rs.bad 2).bind f) ((if opH (mvV m v)=op then Rs.ok (mvV m v) else Rs.bad 2).bind f');rw [Jh hm hv];by_cases e:opH v=op
 . rw [if_pos e,if_pos e];exact hf e
 . rw [if_neg e,if_neg e];exact .bad _ _
theorem X4.mustOfB (hm:Zq m=0){v:List Nd}(hv:GV m v)(op:Int){f f':List Nd->Rs Bool}(hf:opH v=op->Zrt (f v) (f' (mvV m v))):Zrt ((Vi (.ok v) op).bind f) ((Vi (.ok (mvV m v)) op).bind f'):=by
 unfold Vi;show Zrt ((if opH v=op then Rs.ok v else Rs.bad 2).bind f) ((if opH (mvV m v)=op then Rs.ok (mvV m v) else Rs.bad 2).bind f');rw [Jh hm hv];by_cases e:opH v=op
 . rw [if_pos e,if_pos e];exact hf e
 . rw [if_neg e,if_neg e];exact .inr ⟨2,2,rfl,rfl⟩
theorem Kn {x:Nd}(h:¬(x.op=7\/x.op=21\/x.op=22)/\¬(x.op=4\/x.op=24)):Z7 m x=false:=by
 unfold Z7;rw [if_neg h.1,if_neg h.2]
theorem Z5m (b:Bool):GV m [bN b]:=⟨Za4 b,λx hx=>by simp at hx;subst hx;rw [Kn (by simp [bN])];simp⟩
theorem Z5w (n:Int):GV m [nN n]:=⟨Zxa n,λx hx=>by simp at hx;subst hx;rw [Kn (by simp [nN])];simp⟩
theorem X4.bool (b:Bool):X4 m (.ok [bN b]) (.ok [bN b]):=by
 have:=X4.ok (m:=m) (Z5m b);rwa [Zgc m (Za4 b) (.inl rfl)] at this
theorem X4.num (n:Int):X4 m (.ok [nN n]) (.ok [nN n]):=by
 have:=X4.ok (m:=m) (Z5w n);rwa [Zgc m (Zxa n) (.inr (.inl rfl))] at this
theorem X4.numR (r:Rs Int):X4 m (r.bind λn=>.ok [nN n]) (r.bind λn=>.ok [nN n]):=by
 cases r with
 | ok n=>exact .num n
 | bad k=>exact .bad k k
theorem X4.likeR (r:Rs Bool):X4 m (r.bind λn=>.ok [bN n]) (r.bind λn=>.ok [bN n]):=by
 cases r with
 | ok n=>exact .bool n
 | bad k=>exact .bad k k
theorem Zrt.toR {r r':Rs Bool}(h:Zrt r r'):X4 m (r.bind λb=>.ok [bN b]) (r'.bind λb=>.ok [bN b]):=by
 rcases h with ⟨b,rfl,rfl⟩ | ⟨k,k',rfl,rfl⟩
 . exact .bool b
 . exact .bad k k'
theorem Zqd (hm:Zq m=0){op:Int}{ra rb ra' rb':Rs (List Nd)}(ha:X4 m ra ra')(hb:X4 m rb rb'):X4 m (Xm op ra rb) (Xm op ra' rb'):=by
 unfold Xm;refine (ha.must hm 1).bind λv hv=>?_;rw [Zkk hm hv];by_cases e:(nH v==1)=(op==12)
 . rw [if_pos e,if_pos e];exact .ok hv
 . rw [if_neg e,if_neg e];exact hb.must hm 1
theorem Zq0 (hm:Zq m=0){rc ra rb rc' ra' rb':Rs (List Nd)}(hc:X4 m rc rc')(ha:X4 m ra ra')(hb:X4 m rb rb'):X4 m (Vm rc ra rb) (Vm rc' ra' rb'):=by
 unfold Vm;refine (hc.must hm 1).bind λv hv=>?_;rw [Zkk hm hv];by_cases e:nH v=1
 . rw [if_pos e,if_pos e];exact ha
 . rw [if_neg e,if_neg e];exact hb
def rnS (m:Mv)(k:Int)(s:ByteArray):ByteArray:=if m.what=k/\s.toList=m.fr.toList then m.to_ else s
theorem Zhn {k:Int}{s t:ByteArray}(hs:m.what=k->s.toList≠m.to_.toList)(ht:m.what=k->t.toList≠m.to_.toList):rnS m k s=rnS m k t ↔ s=t:=by
 unfold rnS;constructor
 . intro h;split at h
   . rename_i h1;split at h
     . rename_i h2;exact Uy (h1.2.trans h2.2.symm)
     . exact absurd (by rw [<-h]) (ht h1.1)
   . rename_i h1;split at h
     . rename_i h2;exact absurd (by rw [h]) (hs h2.1)
     . exact h
 . rintro rfl;rfl
theorem Zkb (m:Mv){x:Nd}(h:x.op=7\/x.op=21\/x.op=22):ren m x=⟨x.op,x.n,rnS m 1 x.s,x.t⟩:=by
 have hl:Z7 m x=(m.what==1):=by unfold Z7;rw [if_pos h]
 unfold ren rnS;rw [hl];by_cases e:m.what=1
 . simp only [e,beq_self_eq_true,true_and];split <;> rfl
 . have:(m.what==1)=false:=by simpa using e
   simp [this,e]
theorem Znl (m:Mv){x:Nd}(h:x.op=4\/x.op=24):ren m x=⟨x.op,x.n,rnS m 2 x.s,x.t⟩:=by
 have hl:Z7 m x=(m.what==2):=by unfold Z7;rw [if_neg (by omega),if_pos h]
 unfold ren rnS;rw [hl];by_cases e:m.what=2
 . simp only [e,beq_self_eq_true,true_and];split <;> rfl
 . have:(m.what==2)=false:=by simpa using e
   simp [this,e]
def mvU (m:Mv)(u:Ud):Ud:=⟨rnS m 2 u.ty,u.id⟩
def FrU (m:Mv)(u:Ud):Prop:=m.what=2->u.ty.toList≠m.to_.toList
theorem Ztd {u w:Ud}(hu:FrU m u)(hw:FrU m w):mvU m u=mvU m w ↔ u=w:=by
 constructor
 . intro h;have h1:rnS m 2 u.ty=rnS m 2 w.ty:=congrArg Ud.ty h;have h2':(mvU m u).id=(mvU m w).id:=congrArg Ud.id h;have h2:u.id=w.id:=h2';have:=(Zhn hu hw).1 h1;cases u;cases w;simp at this h2;simp [this,h2]
 . rintro rfl;rfl
theorem Zib {v:List Nd}(h:Zb v=0)(h4:opH v=4):v = [eN (udH v)]/\Zw (udH v)=0:=by
 obtain ⟨x,rfl,hs⟩:=Ztb h (by omega) (by omega);have h4':x.op=4:=h4;unfold Zj at hs;rw [if_neg (by omega),if_neg (by omega),if_neg (by omega),if_pos h4'] at hs;simp only [Bool.and_eq_true,beq_iff_eq] at hs;obtain ⟨⟨h1,h2⟩,h3⟩:=hs;refine ⟨?_,?_⟩
 . cases x;simp at h4' h1;subst h4' h1;rfl
 . show Zw ⟨x.s,x.t⟩=0;unfold Zw;rw [if_pos h2];exact h3
theorem Zko (u:Ud):Z7 m (eN u)=(m.what==2):=rfl
theorem GV.ent {u:Ud}(h:GV m [eN u]):FrU m u:=λe=>h.fr (eN u) (by simp) (by rw [Zko,e];rfl)
theorem Z5v {u:Ud}(h:Zw u=0)(hf:FrU m u):GV m [eN u]:=⟨Zw5 h,λx hx=>by
 simp at hx;subst hx;rw [Zko];intro e;exact hf (by simpa using e)⟩
theorem Zfc (u:Ud):mvV m [eN u] = [eN (mvU m u)]:=by
 rw [Zjo m (by simp [eN]) (by simp [eN]),Znl m (.inl rfl)];rfl
structure EsF (m:Mv)(es:List En):Prop where
 u:∀e∈es,FrU m e.u
 up:∀e∈es,∀p∈e.up,FrU m p
 at_:∀e∈es,GV m e.at_/\opH e.at_=6
def mvE (m:Mv)(e:En):En:=⟨mvU m e.u,e.up.map (mvU m),mvV m e.at_⟩
theorem Ztn {es:List En}(h:∀e∈es,FrU m e.u){u:Ud}(hu:FrU m u):(es.map (mvE m)).find? (λe=>decide (e.u=mvU m u))=(es.find? λe=>decide (e.u=u)).map (mvE m):=by
 induction es with
 | nil=>rfl
 | cons e r ih=>
  have h1:decide ((mvE m e).u=mvU m u)=decide (e.u=u):=decide_eq_decide.2 (Ztd (h e (by simp)) hu);rw [List.map_cons,List.find?_cons,List.find?_cons,h1];cases decide (e.u=u) with
  | true=>rfl
  | false=>exact ih λx hx=>h x (by simp [hx])
theorem Z20 {es:List En}(h:EsF m es){u:Ud}(hu:FrU m u):Zc2 (es.map (mvE m)) (mvU m u)=(Zc2 es u).map (mvU m):=by
 unfold Zc2;rw [Ztn h.u hu];cases es.find? λe=>decide (e.u=u) <;> rfl
theorem Zg7 {l:List Ud}{u:Ud}(hl:∀x∈l,FrU m x)(hu:FrU m u):mvU m u∈l.map (mvU m) ↔ u∈l:=by
 constructor
 . intro h;obtain ⟨x,hx,e⟩:=List.mem_map.1 h;rwa [<-(Ztd (hl x hx) hu).1 e]
 . exact List.mem_map_of_mem
theorem Z2d {es:List En}(h:EsF m es)(u:Ud):∀p∈Zc2 es u,FrU m p:=by
 intro p hp;unfold Zc2 at hp;split at hp
 . cases hp
 . rename_i e he;exact h.up e (List.mem_of_find?_eq_some he) p hp
theorem Zsd {es:List En}(h:EsF m es):∀(k:Nat) (u:Ud) (met:List Ud),FrU m u->(∀x∈met,FrU m x) ->
 abv (es.map (mvE m)) k (mvU m u) (met.map (mvU m))=(abv es k u met).map (mvU m)/\∀x∈abv es k u met,FrU m x
 | 0,u,met,_,hx=>⟨rfl,hx⟩
 | k+1,u,met,hu,hx=>by
  rw [abv,abv,Z20 h hu];have key:∀(ps:List Ud) (mt:List Ud),(∀p∈ps,FrU m p)->(∀x∈mt,FrU m x) ->
   (ps.map (mvU m)).foldl (λmt p=>if p∈mt then mt else abv (es.map (mvE m)) k p (mt ++ [p])) (mt.map (mvU m))=(ps.foldl (λmt p=>if p∈mt then mt else abv es k p (mt ++ [p])) mt).map (mvU m) /\
   ∀x∈ps.foldl (λmt p=>if p∈mt then mt else abv es k p (mt ++ [p])) mt,FrU m x:=by
   intro ps;induction ps with
   | nil=>intro mt _ hm;exact ⟨rfl,hm⟩
   | cons p ps ih=>
    intro mt hp hmt;rw [List.map_cons,List.foldl_cons,List.foldl_cons];have hpf:=hp p (by simp);by_cases e:p∈mt
    . rw [if_pos e,if_pos ((Zg7 hmt hpf).2 e)];exact ih mt (λq hq=>hp q (by simp [hq])) hmt
    . rw [if_neg e,if_neg (λh=>e ((Zg7 hmt hpf).1 h))];have h1:=Zsd h k p (mt ++ [p]) hpf (λx hx=>by
       rcases List.mem_append.1 hx with hx | hx
       . exact hmt x hx
       . simp at hx;subst hx;exact hpf)
      rw [List.map_append,List.map_cons,List.map_nil] at h1;rw [h1.1];exact ih _ (λq hq=>hp q (by simp [hq])) h1.2
  exact key (Zc2 es u) met (Z2d h u) hx
theorem Z4d {es:List En}(h:EsF m es){a b:Ud}(ha:FrU m a)(hb:FrU m b):inB (es.map (mvE m)) (mvU m a) (mvU m b)=inB es a b:=by
 unfold inB;have h1:=Zsd h 100 a [a] ha (λx hx=>by simp at hx;subst hx;exact ha);rw [List.map_cons,List.map_nil] at h1;rw [h1.1];exact decide_eq_decide.2 (Zg7 h1.2 hb)
theorem Z5d {es:List En}(h:EsF m es):Zr6 (es.map (mvE m))=Zr6 es:=by
 unfold Zr6;rw [List.any_map];have:∀e∈es,decide ((mvE m e).u∈abv (es.map (mvE m)) 100 (mvE m e).u [])=decide (e.u∈abv es 100 e.u []):=λe he=>by
  have h1:=Zsd h 100 e.u [] (h.u e he) (by simp);rw [List.map_nil] at h1;show decide (mvU m e.u∈abv (es.map (mvE m)) 100 (mvU m e.u) [])=_;rw [h1.1];exact decide_eq_decide.2 (Zg7 h1.2 (h.u e he))
 clear h;suffices hs:∀(l:List En) (f g:En->Bool),(∀e∈l,f e=g e)->l.any f=l.any g from hs es _ _ this
 intro l f g;induction l with
 | nil=>intro _;rfl
 | cons a r ih=>intro hh;rw [List.any_cons,List.any_cons,hh a (by simp),ih λe he=>hh e (by simp [he])]
theorem Zjg (p:List Nd):sH p=Xf p:=by cases p <;> rfl
theorem Zqt {ps:List (List Nd)}{s:ByteArray}{p:List Nd}(hn:(Zi ps).Nodup)(hp:p∈ps)(hs:sH p=s):ps.find? (λp=>decide (sH p=s))=some p:=by
 induction ps with
 | nil=>cases hp
 | cons a r ih=>
  rw [List.find?_cons];have hn':(Xf a).toList ∉ Zi r/\(Zi r).Nodup:=List.nodup_cons.1 hn;by_cases e:sH a=s
  . rw [decide_eq_true e];rcases List.mem_cons.1 hp with rfl | hp
    . rfl
    . exact absurd (List.mem_map.2 ⟨p,hp,by rw [<-Zjg,<-Zjg,hs,e]⟩) hn'.1
  . rw [decide_eq_false e];rcases List.mem_cons.1 hp with rfl | hp
    . exact absurd hs e
    . exact ih hn'.2 hp
theorem Zpa {v p:List Nd}(h:GV m v)(h6:opH v=6)(hp:p∈Z8 v):∃f u,p=f :: u/\f.op=7/\Zj f=true/\GV m u/\(m.what=1->f.s.toList≠m.to_.toList):=by
 obtain ⟨ps,e,h1,h2,h3⟩:=Znd h.ok h6;rw [h3] at hp;have hl:ps.flatten.length+1<=200:=by have:=((Z0 v).1 h.ok).1;rw [e,List.length_cons] at this;exact this
 have hfr:FrL m p:=h.fr.sub λx hx=>by rw [e];exact List.mem_cons_of_mem _ (List.mem_flatten.2 ⟨p,hp,hx⟩)
 obtain ⟨f,u,rfl,a,b,c⟩:=h1 p hp;have:=Vk hp;rw [List.length_cons] at this;refine ⟨f,u,rfl,a,b,⟨(Z0 u).2 ⟨by omega,c⟩,hfr.sub λx hx=>List.mem_cons_of_mem _ hx⟩,λhw=>hfr f (by simp) ?_⟩;unfold Z7;rw [if_pos (.inl a),hw];rfl
theorem Z2s (hm:Zq m=0){v:List Nd}(h:GV m v)(h6:opH v=6){s:ByteArray}(hs:m.what=1->s.toList≠m.to_.toList):X4 m (Js v s) (Js (mvV m v) (rnS m 1 s)):=by
 obtain ⟨ps,e,h1,h2,h3⟩:=Znd h.ok h6;obtain ⟨k1,k2,k3⟩:=Zt5 hm h h6;unfold Js;rw [if_neg (by simp [h.ok]),if_pos h6,if_neg (by simp [(h.mv hm).2.1]),if_pos (by rw [Jh hm h];exact h6),k2];have hpn:(Zi (Z8 v)).Nodup:=by rw [h3];exact Zat (Za7 h2)
 have hqn:(Zi (Xp ((Z8 v).map (mvF m)))).Nodup:=((Zn _).map _).nodup_iff.2 k3;cases hf:(Z8 v).find? (λp=>decide (sH p=s)) with
 | some p=>
  have hp:=List.mem_of_find?_eq_some hf;have hps:sH p=s:=by simpa using List.find?_some hf
  obtain ⟨f,u,rfl,a,b,c,d⟩:=Zpa h h6 hp;have hq:mvF m (f :: u)∈Xp ((Z8 v).map (mvF m)):=(Zn _).mem_iff.2 (List.mem_map_of_mem hp);have hqs:sH (mvF m (f :: u))=rnS m 1 s:=by
   show (ren m f).s=_;rw [Zkb m (.inl a)];show rnS m 1 f.s=_;rw [<-hps];rfl
  rw [Zqt hqn hq hqs];exact .ok c
 | none=>
  have hno:∀q∈Xp ((Z8 v).map (mvF m)),¬sH q=rnS m 1 s:=λq hq=>by
   obtain ⟨p,hp,rfl⟩:=List.mem_map.1 ((Zn _).mem_iff.1 hq);obtain ⟨f,u,rfl,a,b,c,d⟩:=Zpa h h6 hp;have:=List.find?_eq_none.1 hf _ hp;intro hc;apply this;have hc':rnS m 1 f.s=rnS m 1 s:=by
    have:(ren m f).s=rnS m 1 s:=hc;rwa [Zkb m (.inl a)] at this
   exact decide_eq_true (show sH (f :: u)=s from (Zhn d hs).1 hc')
  have:(Xp ((Z8 v).map (mvF m))).find? (λp=>decide (sH p=rnS m 1 s))=none:=List.find?_eq_none.2 λq hq=>by simpa using hno q hq
  rw [this];exact .bad _ _
theorem Zqs (hm:Zq m=0){es:List En}(hes:EsF m es){x:Nd}(ho:x.op=9\/x.op=10\/x.op=21\/x.op=22\/x.op=23\/x.op=24)(hx:Z7 m x=true->x.s.toList≠m.to_.toList){v:List Nd}(hv:GV m v) :
 X4 m (Yc es x v) (Yc (es.map (mvE m)) (ren m x) (mvV m v)):=by
 unfold Yc;rw [(V9 m x).1];by_cases h9:x.op=9
 . rw [if_pos h9,if_pos h9];refine X4.mustOf hm hv 1 λe=>?_;rw [Zkk hm hv];exact .bool _
 rw [if_neg h9,if_neg h9];by_cases h10:x.op=10
 . rw [if_pos h10,if_pos h10];refine X4.mustOf hm hv 2 λe=>?_;rw [Zkk hm hv];exact .numR _
 rw [if_neg h10,if_neg h10];by_cases h23:x.op=23
 . rw [if_pos h23,if_pos h23];refine X4.mustOf hm hv 3 λe=>?_;rw [Zgc m hv.ok (.inr (.inr e)),Zdi (Kn (by omega))];exact .likeR _
 rw [if_neg h23,if_neg h23];by_cases h24:x.op=24
 . rw [if_pos h24,if_pos h24];refine X4.mustOf hm hv 4 λe=>?_;obtain ⟨hv',hu⟩:=Zib hv.ok e;have hfu:FrU m (udH v):=by rw [hv'] at hv;exact hv.ent
   have hxs:m.what=2->x.s.toList≠m.to_.toList:=λhw=>hx (by unfold Z7;rw [if_neg (by omega),if_pos (.inr h24),hw];rfl);have hd:decide (sH (mvV m v)=(ren m x).s)=decide (sH v=x.s):=by
    rw [hv',Zfc,Znl m (.inr h24)];exact decide_eq_decide.2 (Zhn hfu hxs)
   rw [hd];exact .bool _
 rw [if_neg h24,if_neg h24];have hxs:m.what=1->x.s.toList≠m.to_.toList:=λhw=>hx (by unfold Z7;rw [if_pos (by omega),hw];rfl);have hxr:(ren m x).s=rnS m 1 x.s:=by rw [Zkb m (by omega)]
 have hend:∀r,GV m r->opH r=6->X4 m (if x.op=21 then (match Js r x.s with | .ok _=>.ok [bN true] | .bad _=>.ok [bN false]) else Js r x.s)
  (if x.op=21 then (match Js (mvV m r) (ren m x).s with | .ok _=>.ok [bN true] | .bad _=>.ok [bN false]) else Js (mvV m r) (ren m x).s):=λr hr h6=>by
  rw [hxr];have hg:=Z2s hm hr h6 hxs;by_cases h21:x.op=21
  . rw [if_pos h21,if_pos h21];rcases hg with ⟨u,e1,_,e2⟩ | ⟨k,k',e1,e2⟩
    . rw [e1,e2];exact .bool _
    . rw [e1,e2];exact .bool _
  . rw [if_neg h21,if_neg h21];exact hg
 unfold K8;rw [Jh hm hv];by_cases h6:opH v=6
 . rw [if_pos h6,if_pos h6];exact hend v hv h6
 rw [if_neg h6,if_neg h6];by_cases h4:opH v=4
 . rw [if_pos h4,if_pos h4];obtain ⟨hv',hu⟩:=Zib hv.ok h4;have hfu:FrU m (udH v):=by rw [hv'] at hv;exact hv.ent
   have hud:udH (mvV m v)=mvU m (udH v):=by
    have:=Zfc (m:=m) (udH v);rw [<-hv'] at this;rw [this];rfl
   rw [hud,Ztn hes.u hfu];cases hf:es.find? λe=>decide (e.u=udH v) with
   | none=>
    show X4 m (if x.op=21 then .ok [bN false] else .bad 8) (if x.op=21 then .ok [bN false] else .bad 8);split
    . exact .bool _
    . exact .bad _ _
   | some e=>
    have he:=List.mem_of_find?_eq_some hf;exact hend e.at_ (hes.at_ e he).1 (hes.at_ e he).2
 . rw [if_neg h4,if_neg h4];exact .bad _ _
theorem Zfl {qs:List (List Nd)}(f:List Nd->Bool):(Yd qs).any f=qs.any f:=by
 rw [Bool.eq_iff_iff,List.any_eq_true,List.any_eq_true];constructor
 . rintro ⟨x,hx,h⟩;exact ⟨x,Xh.1 hx,h⟩
 . rintro ⟨x,hx,h⟩;exact ⟨x,Xh.2 hx,h⟩
theorem Zk8 {qs:List (List Nd)}(f:List Nd->Bool):(Yd qs).all f=qs.all f:=by
 rw [Bool.eq_iff_iff,List.all_eq_true,List.all_eq_true];constructor
 . intro h x hx;exact h x (Xh.2 hx)
 . intro h x hx;exact h x (Xh.1 hx)
theorem Zbh {α:Type}{f g:α->Bool}:∀{l:List α},(∀x∈l,f x=g x)->l.any f=l.any g
 | [],_=>rfl
 | x :: l,h=>by rw [List.any_cons,List.any_cons,h x (by simp),Zbh λy hy=>h y (by simp [hy])]
theorem Zdp {α:Type}{f g:α->Bool}:∀{l:List α},(∀x∈l,f x=g x)->l.all f=l.all g
 | [],_=>rfl
 | x :: l,h=>by rw [List.all_cons,List.all_cons,h x (by simp),Zdp λy hy=>h y (by simp [hy])]
theorem Zs7 (hm:Zq m=0){qs:List (List Nd)}(hq:∀q∈qs,GV m q){p:List Nd}(hp:GV m p):mvV m p∈Yd (qs.map (mvV m)) ↔ p∈qs:=by
 rw [Xh];constructor
 . intro h;obtain ⟨q,h1,h2⟩:=List.mem_map.1 h;rwa [<-(Zie hm (hq q h1) hp).1 h2]
 . exact List.mem_map_of_mem
theorem Z4g (hm:Zq m=0){es:List En}(hes:EsF m es){a b:List Nd}(ha:GV m a)(hb:GV m b):Zrt (Zp2 es a b) (Zp2 (es.map (mvE m)) (mvV m a) (mvV m b)):=by
 unfold Zp2;refine X4.mustOfB hm ha 4 λh4=>?_;obtain ⟨ha',_⟩:=Zib ha.ok h4;have hfa:FrU m (udH a):=by rw [ha'] at ha;exact ha.ent
 have hua:udH (mvV m a)=mvU m (udH a):=by
  have:=Zfc (m:=m) (udH a);rw [<-ha'] at this;rw [this];rfl
 rw [hua,Jh hm hb];have key:∀(ts ts':List (List Nd)),(∀t∈ts,GV m t)->(∀f:List Nd->Bool,ts'.all f=(ts.map (mvV m)).all f)->(∀f:List Nd->Bool,ts'.any f=(ts.map (mvV m)).any f) ->
  Zrt (if ts.all (λt=>opH t==4)=true then .ok (ts.any λt=>inB es (udH a) (udH t)) else .bad 2)
   (if ts'.all (λt=>opH t==4)=true then .ok (ts'.any λt=>inB (es.map (mvE m)) (mvU m (udH a)) (udH t)) else .bad 2):=by
  intro ts ts' hts h1 h2;have e1:ts'.all (λt=>opH t==4)=ts.all (λt=>opH t==4):=by
   rw [h1,List.all_map];exact Zdp λt ht=>by show (opH (mvV m t)==4)=_;rw [Jh hm (hts t ht)]
  rw [e1];by_cases hall:ts.all (λt=>opH t==4)=true
  . rw [if_pos hall,if_pos hall];refine .inl ⟨_,rfl,?_⟩;congr 1
    rw [h2,List.any_map];refine Zbh λt ht=>?_;have ht4:opH t=4:=(by simpa using List.all_eq_true.1 hall t ht);have hg:=hts t ht;obtain ⟨ht',_⟩:=Zib hg.ok ht4;have hft:FrU m (udH t):=(by rw [ht'] at hg;exact hg.ent);show inB _ _ (udH (mvV m t))=_;have hut:udH (mvV m t)=mvU m (udH t):=by
     have:=Zfc (m:=m) (udH t);rw [<-ht'] at this;rw [this];rfl
    rw [hut];exact Z4d hes hfa hft
  . rw [if_neg hall,if_neg hall];exact .inr ⟨_,_,rfl,rfl⟩
 by_cases h5:opH b=5
 . rw [if_pos h5,if_pos h5];unfold Kq;rw [if_neg (by simp [hb.ok]),if_pos h5,if_neg (by simp [(hb.mv hm).2.1]),if_pos (by rw [Jh hm hb];exact h5),(Zff hm hb h5).2];exact key _ _ (λt ht=>hb.part h5 ht) (λf=>Zk8 f) (λf=>Zfl f)
 . rw [if_neg h5,if_neg h5];exact key [b] [mvV m b] (λt ht=>by simp at ht;subst ht;exact hb) (λf=>rfl) (λf=>rfl)
theorem Zqz (hm:Zq m=0){a b:List Nd}(ha:GV m a)(hb:GV m b):Zrt (J1 a b) (J1 (mvV m a) (mvV m b)):=by
 unfold J1;rw [if_neg (by simp [ha.ok]:¬Zb a≠0),if_neg (by simp [hb.ok]:¬Zb b≠0),if_neg (by simp [(ha.mv hm).2.1]:¬Zb (mvV m a)≠0),if_neg (by simp [(hb.mv hm).2.1]:¬Zb (mvV m b)≠0),Jh hm ha];by_cases h5:opH a=5
 . rw [if_pos h5,if_pos h5,(Zff hm ha h5).2];refine .inl ⟨_,rfl,?_⟩;congr 1
   rw [Zfl,List.any_map];exact Zbh λt ht=>decide_eq_decide.2 (Zie hm (ha.part h5 ht) hb)
 . rw [if_neg h5,if_neg h5];exact .inr ⟨_,_,rfl,rfl⟩
theorem Zis (hm:Zq m=0){a b:List Nd}(ha:GV m a)(hb:GV m b){f:List (List Nd)->List (List Nd)->Bool}(hf:∀ps qs:List (List Nd),(∀p∈ps,GV m p)->(∀q∈qs,GV m q)->f (Yd (ps.map (mvV m))) (Yd (qs.map (mvV m)))=f ps qs):Zrt (Zan f a b) (Zan f (mvV m a) (mvV m b)):=by
 unfold Zan;rw [if_neg (by simp [ha.ok]:¬Zb a≠0),if_neg (by simp [hb.ok]:¬Zb b≠0),if_neg (by simp [(ha.mv hm).2.1]:¬Zb (mvV m a)≠0),if_neg (by simp [(hb.mv hm).2.1]:¬Zb (mvV m b)≠0),Jh hm ha,Jh hm hb];by_cases h5:opH a=5/\opH b=5
 . rw [if_pos h5,if_pos h5,(Zff hm ha h5.1).2,(Zff hm hb h5.2).2];refine .inl ⟨_,rfl,?_⟩;rw [hf _ _ (λp hp=>ha.part h5.1 hp) (λp hp=>hb.part h5.2 hp)]
 . rw [if_neg h5,if_neg h5];exact .inr ⟨_,_,rfl,rfl⟩
theorem Zqr (hm:Zq m=0){es:List En}(hes:EsF m es){op:Int}{a b:List Nd}(ha:GV m a)(hb:GV m b):X4 m (Yn es op a b) (Yn (es.map (mvE m)) op (mvV m a) (mvV m b)):=by
 unfold Yn;by_cases h14:op=14
 . rw [if_pos h14,if_pos h14,decide_eq_decide.2 (Zie hm ha hb)];exact .bool _
 rw [if_neg h14,if_neg h14];by_cases h20:op=20
 . rw [if_pos h20,if_pos h20];exact (Z4g hm hes ha hb).toR
 rw [if_neg h20,if_neg h20];by_cases h25:op=25
 . rw [if_pos h25,if_pos h25];exact (Zqz hm ha hb).toR
 rw [if_neg h25,if_neg h25];by_cases h26:op=26
 . rw [if_pos h26,if_pos h26];refine (Zis hm ha hb λps qs hp hq=>?_).toR;rw [Zk8,List.all_map];exact Zdp λq hq'=>decide_eq_decide.2 (Zs7 hm hp (hq q hq'))
 rw [if_neg h26,if_neg h26];by_cases h27:op=27
 . rw [if_pos h27,if_pos h27];refine (Zis hm ha hb λps qs hp hq=>?_).toR;rw [Zfl,List.any_map];exact Zbh λq hq'=>decide_eq_decide.2 (Zs7 hm hp (hq q hq'))
 rw [if_neg h27,if_neg h27];refine X4.mustOf hm ha 2 λe=>?_;refine X4.mustOf hm hb 2 λe=>?_;rw [Zkk hm ha,Zkk hm hb];by_cases h15:op=15
 . rw [if_pos h15];exact .bool _
 rw [if_neg h15];by_cases h16:op=16
 . rw [if_pos h16];exact .bool _
 rw [if_neg h16];exact .numR _
variable {m : Mv}
theorem Z0j {n:Nd}(h:n.op=5\/n.op=6):Z7 m n=false:=Kn (by omega)
theorem Z3h (hm:Zq m=0){vs:List (List Nd)}(hv:∀v∈vs,GV m v):X4 m (Qc vs) (Qc (vs.map (mvV m))):=by
 have z1:Vl vs=0:=Ku λq hq=>by have:=(Z0 q).1 (hv q hq).ok;exact ⟨this.2,this.1⟩
 have z2:Vl (vs.map (mvV m))=0:=Ku λq hq=>by
  obtain ⟨p,hp,rfl⟩:=List.mem_map.1 hq;have:=(Z0 _).1 ((hv p hp).mv hm).2.1;exact ⟨this.2,this.1⟩
 have hps:∀p∈Yd vs,GV m p:=λp hp=>hv p (Xk hp);have hext:Yd (vs.map (mvV m))=Yd ((Yd vs).map (mvV m)):=Zl5 λp=>by
  rw [List.mem_map,List.mem_map];constructor
  . rintro ⟨q,h1,h2⟩;exact ⟨q,Xh.2 h1,h2⟩
  . rintro ⟨q,h1,h2⟩;exact ⟨q,Xh.1 h1,h2⟩
 have hnd:((Yd vs).map (mvV m)).Nodup:=by
  rw [List.Nodup,List.pairwise_map];refine (U1 vs).imp_of_mem ?_;intro a b ha hb hab e;have:=(Zie hm (hps a ha) (hps b hb)).1 e;subst this;exact Qa _ hab
 have hlen:(Yb (vs.map (mvV m))).length=(Yb vs).length:=by
  unfold Yb;rw [hext,List.length_cons,List.length_cons,(Qt hnd).flatten.length_eq,Jc _ λp hp=>((hps p hp).mv hm).2.2.1]
 unfold Qc V7;rw [if_neg (by simp [z1]:¬Vl vs≠0),if_neg (by simp [z2]:¬Vl (vs.map (mvV m))≠0),hlen];by_cases hb:200 < (Yb vs).length
 . rw [if_pos hb,if_pos hb];exact .bad _ _
 . rw [if_neg hb,if_neg hb];have hok:Zb (Yb vs)=0:=by
    have hr:Qc vs=.ok (Yb vs):=(by unfold Qc V7;rw [if_neg (by simp [z1]:¬Vl vs≠0),if_neg hb];rfl);exact Zm7 hr
   have hg:GV m (Yb vs):=⟨hok,λx hx=>by
    unfold Yb at hx;rcases List.mem_cons.1 hx with rfl | hx
    . rw [Z0j (.inl rfl)];simp
    . obtain ⟨p,hp,hx⟩:=List.mem_flatten.1 hx;exact (hps p hp).fr x hx⟩
   have hpv:Z8 (Yb vs)=Yd vs:=by
    unfold Yb;exact Xr _ (λp hp=>⟨_,Vf ((Z0 p).1 (hps p hp).ok).2⟩) _ (nL _)
   have hmv:mvV m (Yb vs)=Yb (vs.map (mvV m)):=by
    rw [(Zff hm hg rfl).1,hpv];unfold Yb;rw [hext]
   rw [<-hmv];exact .ok hg
def Zhf (f:ByteArray × List Nd):List Nd:=⟨7,0,f.1,⟨#[]⟩⟩ :: f.2
theorem Zb6:∀{fs:List (ByteArray × List Nd)} {met:List (List UInt8)},(∀f∈fs,Zf f.1.toList=0/\f.1.toList ∉ met/\Zb f.2=0)->(fs.map λf=>f.1.toList).Nodup->Jz fs met=0
 | [],_,_,_=>rfl
 | (s,v) :: r,met,h,hn=>by
  obtain ⟨h1,h2,h3⟩:=h (s,v) (by simp);rw [List.map_cons,List.nodup_cons] at hn;rw [Jz,if_neg (by simpa using h1),if_neg h2,if_neg (by simpa using h3)];refine Zb6 (λf hf=>?_) hn.2;obtain ⟨g1,g2,g3⟩:=h f (by simp [hf]);refine ⟨g1,λhc=>?_,g3⟩;rcases List.mem_append.1 hc with hc | hc
  . exact g2 hc
  . simp at hc;exact hn.1 (List.mem_map.2 ⟨f,hf,hc⟩)
theorem Zel (hm:Zq m=0){s:ByteArray}(h:Zf s.toList=0)(k:Int):Zf (rnS m k s).toList=0:=by
 unfold rnS;split
 . exact (Zxe hm).2.2
 . exact h
def mvP (m:Mv)(f:ByteArray × List Nd):ByteArray × List Nd:=(rnS m 1 f.1,mvV m f.2)
theorem Z2i (m:Mv)(f:ByteArray × List Nd):mvF m (Zhf f)=Zhf (mvP m f):=by
 show ren m ⟨7,0,f.1,⟨#[]⟩⟩ :: mvV m f.2=_;rw [Zkb m (.inl rfl)];rfl
theorem Z05 (hm:Zq m=0){fs fs':List (ByteArray × List Nd)}(hf:∀f∈fs,Zf f.1.toList=0/\GV m f.2/\(m.what=1->f.1.toList≠m.to_.toList))(hn:(fs.map λf=>f.1.toList).Nodup)(hp:fs'.Perm (fs.map (mvP m))) :
 X4 m (Ky fs) (Ky fs'):=by
 have z1:Jz fs []=0:=Zb6 (λf hf'=>⟨(hf f hf').1,by simp,(hf f hf').2.1.ok⟩) hn;have hn1:((fs.map (mvP m)).map λf=>f.1.toList).Nodup:=by
  rw [List.map_map,List.Nodup,List.pairwise_map];rw [List.Nodup,List.pairwise_map] at hn;refine hn.imp_of_mem ?_;intro a b ha hb hab e;have e':rnS m 1 a.1=rnS m 1 b.1:=Uy e;exact hab (congrArg ByteArray.toList ((Zhn (hf a ha).2.2 (hf b hb).2.2).1 e'))
 have hn2:(fs'.map λf=>f.1.toList).Nodup:=(hp.map _).nodup_iff.2 hn1;have z2:Jz fs' []=0:=Zb6 (λf hf'=>by
  obtain ⟨g,hg,rfl⟩:=List.mem_map.1 (hp.mem_iff.1 hf');exact ⟨Zel hm (hf g hg).1 1,by simp,((hf g hg).2.1.mv hm).2.1⟩) hn2
 have hl:∀(l:List (ByteArray × List Nd)),(Yx l).length=(l.map Zhf).flatten.length+1:=λl=>by
  unfold Yx;rw [List.length_cons,(Zn _).flatten.length_eq];rfl
 have hlen:(Yx fs').length=(Yx fs).length:=by
  rw [hl,hl,(hp.map Zhf).flatten.length_eq,List.map_map];congr 1
  have:∀(l:List (ByteArray × List Nd)),(∀f∈l,(mvV m f.2).length=f.2.length)->(l.map (Zhf ∘ mvP m)).flatten.length=(l.map Zhf).flatten.length:=by
   intro l;induction l with
   | nil=>intro _;rfl
   | cons f r ih=>
    intro h;rw [List.map_cons,List.map_cons,List.flatten_cons,List.flatten_cons,List.length_append,List.length_append,ih λg hg=>h g (by simp [hg])];have:=h f (by simp);simp [Zhf,mvP,this]
  exact this fs λf hf'=>((hf f hf').2.1.mv hm).2.2.1
 unfold Ky;rw [if_neg (by simp [z1]:¬Jz fs []≠0),if_neg (by simp [z2]:¬Jz fs' []≠0),hlen];by_cases hb:200 < (Yx fs).length
 . rw [if_pos hb,if_pos hb];exact .bad _ _
 . rw [if_neg hb,if_neg hb];have hok:Zb (Yx fs)=0:=by
    have hr:Ky fs=.ok (Yx fs):=(by unfold Ky;rw [if_neg (by simp [z1]:¬Jz fs []≠0),if_neg hb]);exact Zm1 hr
   have hg:GV m (Yx fs):=⟨hok,λx hx=>by
    unfold Yx at hx;rcases List.mem_cons.1 hx with rfl | hx
    . rw [Z0j (.inr rfl)];simp
    . obtain ⟨p,hp',hx⟩:=List.mem_flatten.1 hx;obtain ⟨f,hf',rfl⟩:=List.mem_map.1 ((Zn _).mem_iff.1 hp');rcases List.mem_cons.1 hx with rfl | hx
      . intro hlk;refine (hf f hf').2.2 ?_;have:Z7 m ⟨7,0,f.1,⟨#[]⟩⟩=(m.what==1):=rfl;rw [this] at hlk;simpa using hlk
      . exact (hf f hf').2.1.fr x hx⟩
   have hex:∀p∈fs.map Zhf,Ex (.one true) p:=λp hp'=>by
    obtain ⟨f,hf',rfl⟩:=List.mem_map.1 hp';refine Zbm rfl ?_ (Vf ((Z0 _).1 (hf f hf').2.1.ok).2);have:=(hf f hf').1;simp [Zj,this,ByteArray.toList_mk]
   have hpv:Z8 (Yx fs)=Xp (fs.map Zhf):=by
    unfold Yx;exact Xr _ (λp hp'=>⟨_,hex p ((Zn _).mem_iff.1 hp')⟩) _ (nL _)
   obtain ⟨k1,k2,k3⟩:=Zt5 hm hg rfl;have hmv:mvV m (Yx fs)=Yx fs':=by
    rw [hpv] at k1 k3;rw [k1];unfold Yx;have e1:(Xp (fs.map Zhf)).length=fs'.length:=(by rw [(Zn _).length_eq,List.length_map,hp.length_eq,List.length_map]);have e2:Xp ((Xp (fs.map Zhf)).map (mvF m))=Xp (fs'.map Zhf):=by
     refine Zzu ?_ k3;refine ((Zn _).map _).trans ?_;rw [List.map_map];have:fs.map (mvF m ∘ Zhf)=(fs.map (mvP m)).map Zhf:=by
      rw [List.map_map];exact List.map_congr_left λf _=>Z2i m f
     rw [this];exact (hp.map Zhf).symm
    rw [e1,e2];rfl
   rw [<-hmv];exact .ok hg
structure RqF (m:Mv)(q:Rq):Prop where
 ok:Vr q=0
 who:FrU m q.who
 act:FrU m q.act
 what:FrU m q.what
 ctx:GV m q.ctx
def mvQ (m:Mv)(q:Rq):Rq:=⟨mvU m q.who,mvU m q.act,mvU m q.what,mvV m q.ctx⟩
theorem Zeu {q:Rq}(h:Vr q=0):Zw q.who=0/\Zw q.act=0/\Zw q.what=0/\Zb q.ctx=0/\opH q.ctx=6:=by
 unfold Vr at h;split at h
 . rename_i h1;exact absurd h h1
 . rename_i h1;split at h
   . rename_i h2;exact absurd h h2
   . rename_i h2;split at h
     . rename_i h3;exact absurd h h3
     . rename_i h3;split at h
       . rename_i h4;exact absurd h h4
       . rename_i h4;split at h
         . rename_i h5;exact ⟨Classical.not_not.1 h1,Classical.not_not.1 h2,Classical.not_not.1 h3,Classical.not_not.1 h4,h5⟩
         . cases h
theorem Zuy {q:Rq}(hq:RqF m q)(s:List UInt8):X4 m (Jf q s) (Jf (mvQ m q) s):=by
 obtain ⟨h1,h2,h3,h4,h5⟩:=Zeu hq.ok;have he:∀{u:Ud},Zw u=0->FrU m u->X4 m (.ok [eN u]) (.ok [eN (mvU m u)]):=λ{u} a b=>by
  rw [<-Zfc];exact .ok (Z5v a b)
 unfold Jf;split
 . exact he h1 hq.who
 . split
   . exact he h2 hq.act
   . split
     . exact he h3 hq.what
     . split
       . exact .ok hq.ctx
       . exact .bad _ _
def mvX (m:Mv)(xs:List Nd):List Nd:=(Zt m false xs.length xs).getD []
theorem Zal (hm:Zq m=0){b:Bool}{xs:List Nd}(h:Ex (.one b) xs)(hf:FrL m xs):(∀k,xs.length<=k->Zt m false k xs=some (mvX m xs))/\Ex (.one b) (mvX m xs)/\(mvX m xs).head? = xs.head?.map (ren m)/\(mvX m xs).length=xs.length:=by
 obtain ⟨ys,h1,h2,h3,h4⟩:=Z43 hm h hf xs.length (nL _);have e:mvX m xs=ys:=by unfold mvX;rw [h1];rfl
 rw [e];refine ⟨λk hk=>?_,h2,h3,by rw [h4.length_eq,List.length_map]⟩;rw [<-h1];exact Za3 m false _ xs b (nL _) h _ _ hk (nL _)
theorem Ziw (hm:Zq m=0){n:Nd}{ps:List (List Nd)}{b:Bool}(h:Ex (.one b) (n :: ps.flatten))(hp:∀p∈ps,Ex (.one (n.op==6)) p)(hf:FrL m (n :: ps.flatten)) :
 mvX m (n :: ps.flatten)=ren m n :: (if n.op=6 then Xp (ps.map (mvX m)) else ps.map (mvX m)).flatten:=by
 have hfp:∀p∈ps,FrL m p:=λp hpm=>hf.sub λx hx=>List.mem_cons_of_mem _ (List.mem_flatten.2 ⟨p,hpm,hx⟩);have hmap:ps.map (Zt m false ps.flatten.length)=(ps.map (mvX m)).map some:=by
  rw [List.map_map];exact List.map_congr_left λp hpm=>(Zal hm (hp p hpm) (hfp p hpm)).1 _ (Uc hpm)
 have h0:=(Zal hm h hf).1 _ (nL _);rw [List.length_cons,Xa m false _ n (λp hpm=>⟨_,hp p hpm⟩),hmap,Qn] at h0;simp only at h0;by_cases h6:n.op=6
 . rw [if_pos h6] at h0 ⊢;split at h0
   . injection h0 with h0;rw [h0]
   . cases h0
 . rw [if_neg h6] at h0 ⊢;rw [if_neg (by simp)] at h0;injection h0 with h0;rw [h0]
theorem Z17 (hm:Zq m=0){p:List Nd}(h:Ex (.one true) p)(hf:FrL m p):∃f v,p=f :: v/\f.op=7/\Zf f.s.toList=0/\Ex (.one false) v/\mvX m p=ren m f :: mvX m v:=by
 obtain ⟨f,v,rfl,hs,h7⟩:=Jb h;have h7':f.op=7:=by simpa using h7
 have hv:Ex (.one false) v:=(Zap h).1;refine ⟨f,v,rfl,h7',Zjd hs h7',hv,?_⟩;have h0:=(Zal hm h hf).1 _ (nL _);rw [List.length_cons,Zas m false _ hv h7',(Zal hm hv (hf.sub λx hx=>List.mem_cons_of_mem _ hx)).1 _ (nL _)] at h0;injection h0 with h0
 exact h0.symm
theorem Zaa {α:Type}{f:α->Rs (List Nd)}{g:α->List Nd}:∀{l:List α},(∀x∈l,f x=.ok (g x))->Uo (l.map f)=.ok (l.map g)
 | [],_=>rfl
 | x :: l,h=>by
  rw [List.map_cons,Uo,h x (by simp)];show (Uo (l.map f)).bind _=_;rw [Zaa λy hy=>h y (by simp [hy])];rfl
theorem Q7 {α:Type}{f:α->Rs (List Nd)}:∀{l:List α} {x:α} {k:Int},x∈l->f x=.bad k->∃k',Uo (l.map f)=.bad k'
 | y :: l,x,k,hx,hk=>by
  rw [List.map_cons,Uo];cases hy:f y with
  | bad k'=>exact ⟨k',rfl⟩
  | ok v=>
   rcases List.mem_cons.1 hx with rfl | hx
   . rw [hy] at hk;cases hk
   . obtain ⟨k',e⟩:=Q7 hx hk;refine ⟨k',?_⟩;show (Uo (l.map f)).bind _=_;rw [e];rfl
def Ze5 (r:Rs (List Nd)):List Nd:=match r with | .ok v=>v | .bad _=>[]
theorem Z5y {α:Type}{f f':α->Rs (List Nd)}{l:List α}(h:∀x∈l,X4 m (f x) (f' x)):(∀x∈l,∃v,f x=.ok v/\GV m v/\f' x=.ok (mvV m v))\/∃x∈l,∃k k',f x=.bad k/\f' x=.bad k':=by
 by_cases hb:∃x∈l,∃k k',f x=.bad k/\f' x=.bad k'
 . exact .inr hb
 . refine .inl λx hx=>?_;rcases h x hx with h | ⟨k,k',h1,h2⟩
   . exact h
   . exact absurd ⟨x,hx,k,k',h1,h2⟩ hb
theorem Zr8 (hm:Zq m=0){es:List En}(hes:EsF m es){q:Rq}(hq:RqF m q):∀(N:Nat) (xs:List Nd),xs.length<=N->Ex (.one false) xs->FrL m xs->X4 m (evX es q xs) (evX (es.map (mvE m)) (mvQ m q) (mvX m xs))
 | 0,xs,hN,h,_=>by
  obtain ⟨x,y,e,_⟩:=Jb h;rw [e] at hN;simp at hN
 | N+1,xs,hN,h,hf=>by
  obtain ⟨n,ps,rfl,h7,hs,hc,hex⟩:=Zh1 h;have hfp:∀p∈ps,FrL m p:=λp hpm=>hf.sub λx hx=>List.mem_cons_of_mem _ (List.mem_flatten.2 ⟨p,hpm,hx⟩);rw [List.length_cons] at hN;rw [Ziw hm h hex hf,V6 es q hex];have hop:=(V9 m n).1;by_cases h6:n.op=6
  . rw [if_pos h6];have e6:(n.op==6)=true:=(by simp [h6]);rw [e6] at hex;have hfl:∀p∈ps,∃f v,p=f :: v/\f.op=7/\Zf f.s.toList=0/\Ex (.one false) v/\mvX m p=ren m f :: mvX m v:=λp hp=>Z17 hm (hex p hp) (hfp p hp);have hexq:∀p∈Xp (ps.map (mvX m)),Ex (.one ((ren m n).op==6)) p:=λp hp=>by
     obtain ⟨p',hp',rfl⟩:=List.mem_map.1 ((Zn _).mem_iff.1 hp);rw [hop,e6];exact (Zal hm (hex p' hp') (hfp p' hp')).2.1
    rw [V6 _ _ hexq];unfold Kt;rw [hop,if_neg (by omega),if_neg (by omega),if_neg (by omega),if_neg (by omega),show (n.op==5)=false from by simp [h6],e6];simp only;have hsim:∀p∈ps,X4 m (evX es q p.tail) (evX (es.map (mvE m)) (mvQ m q) (mvX m p).tail):=λp hp=>by
     obtain ⟨f,v,rfl,_,_,hv,e⟩:=hfl p hp;rw [e];exact Zr8 hm hes hq N v (by have:=Uc hp;rw [List.length_cons] at this;omega) hv ((hfp _ hp).sub λx hx=>List.mem_cons_of_mem _ hx)
    have hpw:(Zi ps).Nodup:=by
     cases h with
     | one x body _ hs' h7' hbd=>
      obtain ⟨ps',hc',e',hK⟩:=J8 hbd;rw [e6] at hK;have:ps'=ps:=by
       have a1:=Xr ps' (λp hp=>⟨_,Jq hK p hp⟩) _ (nL _);have a2:=Xr ps (λp hp=>⟨_,hex p hp⟩) _ (nL _);rw [<-e',a2] at a1;exact a1.symm
      rw [<-this];exact Zat (Za7 hK)
    rcases Z5y hsim with hall | ⟨p,hp,k,k',b1,b2⟩
    . have g1:∀p∈ps,evX es q p.tail=.ok (Ze5 (evX es q p.tail)):=λp hp=>by obtain ⟨v,e,_⟩:=hall p hp;rw [e];rfl
      have g2:∀p∈ps,GV m (Ze5 (evX es q p.tail))/\evX (es.map (mvE m)) (mvQ m q) (mvX m p).tail=.ok (mvV m (Ze5 (evX es q p.tail))):=λp hp=>by
       obtain ⟨v,e,h1,h2⟩:=hall p hp;rw [e];exact ⟨h1,h2⟩
      have g3:∀p∈Xp (ps.map (mvX m)),evX (es.map (mvE m)) (mvQ m q) p.tail=.ok (Ze5 (evX (es.map (mvE m)) (mvQ m q) p.tail)):=λp hp=>by
       obtain ⟨p',hp',rfl⟩:=List.mem_map.1 ((Zn _).mem_iff.1 hp);rw [(g2 p' hp').2];rfl
      rw [Zaa g1,Zaa g3];show X4 m (Ky ((ps.map sH).zip (ps.map λp=>Ze5 (evX es q p.tail)))) (Ky (((Xp (ps.map (mvX m))).map sH).zip ((Xp (ps.map (mvX m))).map λp=>Ze5 (evX (es.map (mvE m)) (mvQ m q) p.tail))));have hz:∀{α:Type} (l:List α) (f:α->ByteArray) (g:α->List Nd),(l.map f).zip (l.map g)=l.map λx=>(f x,g x):=by
       intro α l f g;induction l with
       | nil=>rfl
       | cons x r ih=>simp [ih]
      rw [hz,hz];refine Z05 hm (λf hf'=>?_) ?_ ?_
      . obtain ⟨p,hp,rfl⟩:=List.mem_map.1 hf';obtain ⟨f,v,rfl,f7,fn,hv,e⟩:=hfl p hp;refine ⟨fn,(g2 _ hp).1,λhw=>hfp _ hp f (by simp) ?_⟩;unfold Z7;rw [if_pos (.inl f7),hw];rfl
      . rw [List.map_map];have:ps.map ((λf:ByteArray × List Nd=>f.1.toList) ∘ λp=>(sH p,Ze5 (evX es q p.tail)))=Zi ps:=by
         unfold Zi;exact List.map_congr_left λp _=>by show (sH p).toList=_;rw [Zjg]
        rw [this];exact hpw
      . rw [List.map_map];refine ((Zn _).map _).trans ?_;rw [List.map_map];refine List.Perm.of_eq (List.map_congr_left λp hp=>?_);show (sH (mvX m p),Ze5 (evX (es.map (mvE m)) (mvQ m q) (mvX m p).tail))=mvP m (sH p,Ze5 (evX es q p.tail));rw [(g2 p hp).2];obtain ⟨f,v,rfl,f7,fn,hv,e⟩:=hfl p hp;have:sH (mvX m (f :: v))=rnS m 1 f.s:=by
         rw [e];show (ren m f).s=_;rw [Zkb m (.inl f7)]
        rw [this];rfl
    . obtain ⟨k1,e1⟩:=Q7 (f:=λp=>evX es q p.tail) hp b1;obtain ⟨k2,e2⟩:=Q7 (f:=λp=>evX (es.map (mvE m)) (mvQ m q) p.tail) (l:=Xp (ps.map (mvX m))) ((Zn _).mem_iff.2 (List.mem_map_of_mem hp)) b2;rw [e1,e2];exact .bad _ _
  . rw [if_neg h6];have e6:(n.op==6)=false:=(by simp [h6]);rw [e6] at hex;have hexq:∀p∈ps.map (mvX m),Ex (.one ((ren m n).op==6)) p:=λp hp=>by
     obtain ⟨p',hp',rfl⟩:=List.mem_map.1 hp;rw [hop,e6];exact (Zal hm (hex p' hp') (hfp p' hp')).2.1
    rw [V6 _ _ hexq];have hsim:∀p∈ps,X4 m (evX es q p) (evX (es.map (mvE m)) (mvQ m q) (mvX m p)):=λp hp=>
     Zr8 hm hes hq N p (by have:=Uc hp;omega) (hex p hp) (hfp p hp)
    unfold Kt;rw [hop];by_cases hl:n.op=1\/n.op=2\/n.op=3\/n.op=4
    . rw [if_pos hl,if_pos hl];have hg:GV m [n]:=⟨Zls hs hl,λx hx=>by simp at hx;subst hx;exact hf x (by simp)⟩;have:=X4.ok hg;rwa [Zjo m (by omega) (by omega)] at this
    rw [if_neg hl,if_neg hl];by_cases h8:n.op=8
    . rw [if_pos h8,if_pos h8,Zdi (Kn (by omega))];exact Zuy hq _
    rw [if_neg h8,if_neg h8,e6];cases e5:(n.op==5) with
    | true=>
     simp only;rcases Z5y hsim with hall | ⟨p,hp,k,k',b1,b2⟩
     . have g1:∀p∈ps,evX es q p=.ok (Ze5 (evX es q p)):=λp hp=>by obtain ⟨v,e,_⟩:=hall p hp;rw [e];rfl
       have g2:∀p∈ps,GV m (Ze5 (evX es q p))/\evX (es.map (mvE m)) (mvQ m q) (mvX m p)=.ok (mvV m (Ze5 (evX es q p))):=λp hp=>by
        obtain ⟨v,e,h1,h2⟩:=hall p hp;rw [e];exact ⟨h1,h2⟩
       rw [Zaa g1,List.map_map,Zaa (f:=evX (es.map (mvE m)) (mvQ m q) ∘ mvX m) (g:=λp=>mvV m (Ze5 (evX es q p))) λp hp=>(g2 p hp).2];show X4 m (Qc (ps.map λp=>Ze5 (evX es q p))) (Qc (ps.map λp=>mvV m (Ze5 (evX es q p))));have:ps.map (λp=>mvV m (Ze5 (evX es q p)))=(ps.map λp=>Ze5 (evX es q p)).map (mvV m):=(by rw [List.map_map];rfl);rw [this];exact Z3h hm λv hv=>by obtain ⟨p,hp,rfl⟩:=List.mem_map.1 hv;exact (g2 p hp).1
     . obtain ⟨k1,e1⟩:=Q7 (f:=evX es q) hp b1;obtain ⟨k2,e2⟩:=Q7 (f:=evX (es.map (mvE m)) (mvQ m q)) (l:=ps.map (mvX m)) (List.mem_map_of_mem hp) b2;rw [e1,e2];exact .bad _ _
    | false=>
     have h5:¬n.op=5:=(by simpa using e5);have h7':¬n.op=7:=(by simpa using h7);match ps,hc,hsim with
     | [],_,_=>exact .bad _ _
     | [a],hc,hsim=>
      simp only [List.map_cons,List.map_nil];have ho:n.op=9\/n.op=10\/n.op=21\/n.op=22\/n.op=23\/n.op=24:=by
       unfold Zl at hc;rw [if_neg (by omega),if_neg (by omega)] at hc;by_cases h1:n.op=7\/n.op=9\/n.op=10\/n.op=21\/n.op=22\/n.op=23\/n.op=24
       . omega
       . rw [if_neg h1] at hc;split at hc
         . simp at hc
         . split at hc <;> simp at hc
      exact (hsim a (by simp)).bind λv hv=>Zqs hm hes ho (hf n (by simp)) hv
     | [a,b],hc,hsim=>
      simp only [List.map_cons,List.map_nil];have ha:=hsim a (by simp);have hb:=hsim b (by simp);by_cases h11:n.op=11\/n.op=12
      . rw [if_pos h11,if_pos h11];exact Zqd hm ha hb
      . rw [if_neg h11,if_neg h11];exact ha.bind λu hu=>hb.bind λv hv=>Zqr hm hes hu hv
     | [c,a,b],hc,hsim=>exact Zq0 hm (hsim c (by simp)) (hsim a (by simp)) (hsim b (by simp))
     | a :: b :: c :: d :: r,_,_=>exact .bad _ _
variable {m : Mv}
theorem Zg6 (hm:Zq m=0){u:Ud}(h:Zw u=0):Zw (mvU m u)=0:=by
 unfold Zw at h ⊢;show (if Zf (rnS m 2 u.ty).toList=0 then Yi u.id.toList else Zf (rnS m 2 u.ty).toList)=0;by_cases h1:Zf u.ty.toList=0
 . rw [if_pos h1] at h;rw [if_pos (Zel hm h1 2)];exact h
 . rw [if_neg h1] at h;exact absurd h h1
theorem Z2a (hm:Zq m=0){ups:List Ud}(hf:∀p∈ups,FrU m p){i:Nat}(h:Znc ups i=0):Znc (ups.map (mvU m)) i=0:=by
 unfold Znc at h ⊢;rw [List.getElem?_map];cases hp:ups[i]? with
 | none=>rfl
 | some p=>
  rw [hp] at h;simp only [Option.map_some] at h ⊢;have hpm:=mG hp;split at h
  . rename_i h1;exact absurd h h1
  . rename_i h1;split at h
    . cases h
    . rename_i h2;rw [if_neg (by simpa using Zg6 hm (Classical.not_not.1 h1)),if_neg];rw [<-List.map_take,Zg7 (λx hx=>hf x (List.mem_of_mem_take hx)) (hf p hpm)];exact h2
theorem Zul (hm:Zq m=0){ups:List Ud}(hf:∀p∈ups,FrU m p)(h:Ur ups=0):Ur (ups.map (mvU m))=0:=by
 unfold Ur at h ⊢;rw [List.length_map];exact Zax λi hi=>Z2a hm hf (Zbr h i hi)
theorem Zxn (hm:Zq m=0){es:List En}(hes:EsF m es){i:Nat}(h:Uj es i=0):Uj (es.map (mvE m)) i=0:=by
 unfold Uj at h ⊢;rw [List.getElem?_map];cases he:es[i]? with
 | none=>rfl
 | some e=>
  rw [he] at h;simp only [Option.map_some] at h ⊢;have hem:=mG he;split at h
  . rename_i h1;exact absurd h h1
  . rename_i h1;split at h
    . cases h
    . rename_i h2;have h2':¬(mvE m e).u∈((es.map (mvE m)).take i).map En.u:=by
       rw [<-List.map_take,List.map_map];have:(es.take i).map (En.u ∘ mvE m)=((es.take i).map En.u).map (mvU m):=(by rw [List.map_map];rfl);rw [this];show ¬mvU m e.u∈_;rw [Zg7 (λx hx=>by obtain ⟨y,hy,rfl⟩:=List.mem_map.1 hx;exact hes.u y (List.mem_of_mem_take hy)) (hes.u e hem)];exact h2
      have h1':Zw (mvE m e).u=0:=Zg6 hm (Classical.not_not.1 h1);rw [if_neg (by simpa using h1'),if_neg h2'];unfold Vu at h ⊢;show (if 6 < (e.up.map (mvU m)).length then (4:Int) else if Ur (e.up.map (mvU m))≠0 then Ur (e.up.map (mvU m)) else if Zb (mvV m e.at_)≠0 then Zb (mvV m e.at_) else if opH (mvV m e.at_)=6 then 0 else 2)=0;have hg:=hes.at_ e hem;rw [List.length_map];split at h
      . cases h
      . rename_i h3;rw [if_neg h3];split at h
        . rename_i h4;exact absurd h h4
        . rename_i h4;rw [if_neg (by simpa using Zul hm (hes.up e hem) (Classical.not_not.1 h4)),if_neg (by simpa using (hg.1.mv hm).2.1),if_pos (by rw [Jh hm hg.1];exact hg.2)]
theorem Zfp (hm:Zq m=0){es:List En}(hes:EsF m es)(h:Ym es=0):Ym (es.map (mvE m))=0:=by
 unfold Ym at h ⊢;rw [List.length_map,Z5d hes];split at h
 . cases h
 . rename_i h1;rw [if_neg h1];split at h
   . rename_i h2;exact absurd h h2
   . rename_i h2;have h3:fnz (Uj (es.map (mvE m))) es.length=0:=Zax λi hi=>Zxn hm hes (Zbr (Classical.not_not.1 h2) i hi);rw [if_neg (by simpa using h3)];exact h
theorem Zjm (hm:Zq m=0){q:Rq}(hq:RqF m q):Vr (mvQ m q)=0:=by
 obtain ⟨h1,h2,h3,h4,h5⟩:=Zeu hq.ok;unfold Vr;show (if Zw (mvU m q.who)≠0 then Zw (mvU m q.who) else if Zw (mvU m q.act)≠0 then Zw (mvU m q.act) else if Zw (mvU m q.what)≠0 then Zw (mvU m q.what) else if Zb (mvV m q.ctx)≠0 then Zb (mvV m q.ctx) else if opH (mvV m q.ctx)=6 then 0 else 2)=0;rw [if_neg (by simpa using Zg6 hm h1),if_neg (by simpa using Zg6 hm h2),if_neg (by simpa using Zg6 hm h3),if_neg (by simpa using (hq.ctx.mv hm).2.1),if_pos (by rw [Jh hm hq.ctx];exact h5)]
theorem Zbi (hm:Zq m=0){e:List Nd}(h:Zo e=0)(hf:FrL m e):Zo (mvX m e)=0:=by
 obtain ⟨h1,h2⟩:=(Xd e).1 h;obtain ⟨_,a2,_,a4⟩:=Zal hm h2 hf;exact (Xd _).2 ⟨by omega,a2⟩
theorem Zqv (hm:Zq m=0){es:List En}(hes:EsF m es)(h0:Ym es=0){q:Rq}(hq:RqF m q){e:List Nd}(ht:Zo e=0)(hf:FrL m e) :
 X4 m (Jd es q e) (Jd (es.map (mvE m)) (mvQ m q) (mvX m e)):=by
 unfold Jd;rw [if_neg (by simp [h0]),if_neg (by simp [hq.ok]),if_neg (by simp [ht]),if_neg (by simp [Zfp hm hes h0]),if_neg (by simp [Zjm hm hq]),if_neg (by simp [Zbi hm ht hf])];exact Zr8 hm hes hq _ e (nL _) ((Xd e).1 ht).2 hf
theorem Zpk (hm:Zq m=0){e:List Nd}(ht:Zo e=0)(hf:FrL m e):Zs1 m e=some (mvX m e):=
 (Zal hm ((Xd e).1 ht).2 hf).1 _ (nL _)
theorem Z27 (hm:Zq m=0){v:List Nd}(h:GV m v):Z1p m v=some (mvV m v):=(h.mv hm).1
end Go.Proofs.YtpheiojmcafolaaGreatDoor
namespace Go.Proofs.YtpheiojmcafolaaGreatDoor
open Go.RowKit Go.Sort
theorem Ke:(Tryz.prog.info? 9).map (λi=>(i.zero,i.size,i.bytes))=some (some (.string ⟨#[]⟩),1,16):=by kernel_rfl
def Zb9 (w:World)(r:Ending)(w':World)(ss:List (List UInt8))(k:Int):Prop:=
 ∃A c,r=.returned (.tuple #[.slice A ss.length c,Yh k])/\ss.length<=c/\c<=9223372036854775807/\Y2 w' w'.heap.size A ss/\Below w.heap.size w w'
end Go.Proofs.YtpheiojmcafolaaGreatDoor
namespace Go.Proofs.YtpheiojmcafolaaGreatDoor
open Go.RowKit
theorem Zpt {x:Nd}(h:x.op=1\/x.op=2\/x.op=3\/x.op=4):(Zb [x]==0)=Zj x:=by
 have h5:¬x.op=5:=by omega
 have h6:¬x.op=6:=by omega
 have h7:¬x.op=7:=by omega
 cases hs:Zj x <;> simp [Zb,vGo,hs,h5,h6,h7]
theorem Zdj {x:Nd}(h:x.op=1\/x.op=2\/x.op=3\/x.op=4):Zx x=Zj x:=by
 unfold Zx;rw [if_pos h,Zpt h]
theorem Zia {l:List UInt8}(h:Zf l=0):l.length<=20:=by
 cases l with
 | nil=>simp
 | cons a r=>
  have e:Zf (a :: r)=if Jp (a.toNat:Int)=false then 1 else if (a :: r).all Qo=false then 1 else if 20 < (a :: r).length then 4 else 0:=rfl;rw [e] at h;split at h
  . cases h
  . split at h
    . cases h
    . split at h
      . cases h
      . omega
theorem Znb {l:List UInt8}(h:Yi l=0):l.length<=60:=by
 unfold Yi at h;split at h
 . cases h
 . omega
theorem Z4o {l:List UInt8}(h:Xb l=true):l.length<=21:=by
 cases l with
 | nil=>simp
 | cons a r=>
  have e:Xb (a :: r)=if a=63 then Zf r==0 else Zf (a :: r)==0 && !Kk (a :: r):=rfl;rw [e] at h;split at h
  . have:=Zia (by simpa using h);simp;omega
  . simp only [Bool.and_eq_true,beq_iff_eq] at h;have:=Zia h.1;omega
theorem Zvy {x:Nd}(h:Zx x=true):x.s.size<=60/\x.t.size<=60:=by
 rw [<-Zk x.s,<-Zk x.t];by_cases h4:x.op=1\/x.op=2\/x.op=3\/x.op=4
 . rw [Zdj h4] at h;unfold Zj at h;rcases h4 with e | e | e | e <;> rw [e] at h <;> simp [-List.length_eq_zero_iff] at h
   . rw [h.1.2,h.2];simp
   . rw [h.1,h.2];simp
   . rw [h.1.2];exact ⟨Znb h.2,by simp⟩
   . exact ⟨Nat.le_trans (Zia h.1.2) (by omega),Znb h.2⟩
 unfold Zx at h;rw [if_neg h4] at h;split at h
 . simp at h;rw [h.1.2,h.2];simp
 split at h
 . simp at h;rw [h.1.2];exact ⟨Nat.le_trans (Z4o h.2) (by omega),by simp⟩
 split at h
 . simp at h;rw [h.1.2];exact ⟨Nat.le_trans (Zia h.2) (by omega),by simp⟩
 split at h
 . simp at h;rw [h.1.2];exact ⟨Znb h.2,by simp⟩
 . simp at h;rw [h.1.2,h.2];simp
theorem Zft {t:Zgd}{xs:List Nd}(h:Ex t xs):∀n∈xs,Zx n=true:=by
 induction h with
 | one n body fld hs _ _ ih=>
  intro m hm;rcases List.mem_cons.1 hm with rfl | hm
  . exact hs
  . exact ih m hm
 | nil=>simp
 | cons c r l m xs ys _ _ _ ih1 ih2=>
  intro n hn;rcases List.mem_append.1 hn with hn | hn
  . exact ih1 n hn
  . exact ih2 n hn
theorem Z29 {e:List Nd}(h:Zo e=0):Y0 e:=λx hx=>by
 obtain ⟨h1,h2⟩:=Zvy (Zft ((Xd _).1 h).2 x hx);exact ⟨by omega,by omega⟩
theorem Q3 {s:ByteArray}(h:Zf s.toList=0):s.size<=140737488351232:=by
 rw [<-Zk];unfold Zf at h;(repeat' split at h) <;> first | omega | cases h | simp_all
theorem Zid {s:ByteArray}(h:Yi s.toList=0):s.size<=140737488351232:=by
 rw [<-Zk];unfold Yi at h;split at h
 . cases h
 . omega
theorem Xx {s:ByteArray}(h:s.toList.isEmpty=true):s.size<=140737488351232:=by
 rw [<-Zk];have:s.toList = []:=by simpa using h
 rw [this];simp
theorem Zmi {x:Nd}(h:Zj x=true):x.s.size<=140737488351232/\x.t.size<=140737488351232:=by
 unfold Zj at h;split at h
 . simp only [Bool.and_eq_true] at h;exact ⟨Xx h.1.2,Xx h.2⟩
 . split at h
   . simp only [Bool.and_eq_true] at h;exact ⟨Xx h.1,Xx h.2⟩
   . split at h
     . simp only [Bool.and_eq_true,beq_iff_eq] at h;exact ⟨Zid h.2,Xx h.1.2⟩
     . split at h
       . simp only [Bool.and_eq_true,beq_iff_eq] at h;exact ⟨Q3 h.1.2,Zid h.2⟩
       . split at h
         . simp only [Bool.and_eq_true] at h;exact ⟨Xx h.1.2,Xx h.2⟩
         . split at h
           . simp only [Bool.and_eq_true,beq_iff_eq] at h;exact ⟨Q3 h.2,Xx h.1.2⟩
           . cases h
theorem Zl8 {x:Nd}(h:Zx x=true):x.s.size<=140737488351232/\x.t.size<=140737488351232:=by
 unfold Zx at h;split at h
 . have hv:Zb [x]=0:=by simpa using h
   obtain ⟨y,r,e,hs,_⟩:=((Z0 [x]).1 hv).2.ne;injection e with e1 e2
   subst e1;exact Zmi hs
 . split at h
   . simp only [Bool.and_eq_true] at h;exact ⟨Xx h.1.2,Xx h.2⟩
   . split at h
     . simp only [Bool.and_eq_true] at h;refine ⟨?_,Xx h.1.2⟩;have hv:=h.2;rw [<-Zk];unfold Xb at hv;split at hv
       . rename_i he;rw [he];simp
       . rename_i c r he;split at hv
         . have hn:Zf r=0:=(by simpa using hv);have:=Q3 (s:=⟨r.toArray⟩) (by rw [ByteArray.toList_eq];simpa using hn);rw [<-Zk,ByteArray.toList_eq] at this;have h20:r.length<=20:=by
            unfold Zf at hn;(repeat' split at hn) <;> first | omega | cases hn | simp_all
           rw [he];simp;omega
         . simp only [Bool.and_eq_true,beq_iff_eq] at hv;have:=Q3 (s:=x.s) (by rw [he];exact hv.1);rw [<-Zk] at this;exact this
     . split at h
       . simp only [Bool.and_eq_true,beq_iff_eq] at h;exact ⟨Q3 h.2,Xx h.1.2⟩
       . split at h
         . simp only [Bool.and_eq_true,beq_iff_eq] at h;exact ⟨Zid h.2,Xx h.1.2⟩
         . simp only [Bool.and_eq_true] at h;exact ⟨Xx h.1.2,Xx h.2⟩
theorem Zzw {t:Zgd}{xs:List Nd}(h:Ex t xs):Y0 xs:=λx hx=>Zl8 (Zft h x hx)
theorem Zeo {e:List Nd}(h:Zo e=0):Y0 e:=Zzw ((Xd e).1 h).2
theorem Zx1 {m:Mv}{e:List Nd}(h1:(Vn m e).2=0)(h2:(Vn m e).1=true):Zq m=0/\Zo e=0/\Zg9 m e=true:=by
 unfold Vn at h1 h2;split at h1
 . rename_i h;exact absurd h1 h
 . rename_i hm;rw [if_neg hm] at h2;split at h1
   . rename_i h;exact absurd h1 h
   . rename_i he;rw [if_neg he] at h2;exact ⟨by simpa using hm,by simpa using he,h2⟩
theorem Zxw {m:Mv}{e x:List Nd}(hm:Zq m=0)(he:Zo e=0)(h:Zs1 m e=some x):Zcz m e=(x,0):=by
 unfold Zcz;rw [if_neg (by simp [hm]),if_neg (by simp [he]),h];rfl
def mR:Mv:=⟨1,⟨#[97]⟩,⟨#[98]⟩⟩
def eR:List Nd:=[⟨22,0,⟨#[97]⟩,⟨#[]⟩⟩,⟨8,0,⟨#[99,111,110,116,101,120,116]⟩,⟨#[]⟩⟩]
theorem Z5q:Zq mR=0:=by simp [mR,Zq,Zf,Qo,Jp,Zd9,ByteArray.toList_mk]
theorem Z32:Zo eR=0:=by
 simp [eR,Zo,bGo,Zx,Zl,Xb,Zf,Qo,Jp,Zd9,Kk,ByteArray.toList_mk]
theorem Z4b:Zs1 mR eR=some [⟨22,0,⟨#[98]⟩,⟨#[]⟩⟩,⟨8,0,⟨#[99,111,110,116,101,120,116]⟩,⟨#[]⟩⟩]:=by
 simp [eR,mR,Zs1,Zt,Va,skP,Zl,Zy,ren,Z7,ByteArray.toList_mk]
theorem Z3g (s:ByteArray)(w:World):Calls Tryz.prog 43 #[.string s] w λr w'=>r=.returned (.agg #[.int .i64 8,.int .i64 0,.string s,.string ⟨#[]⟩])/\Below w.heap.size w w':=by
 go_enter Tryz.func43,Tryz.ntmps43
 go_wp2_with fail
 exact bodyPost_ret (v:=.agg #[.int .i64 8,.int .i64 0,.string s,.string ⟨#[]⟩]) (by simp [results,Tryz.results43,go_sem]) rfl ⟨rfl,by (repeat (first | assumption | exact bR | apply bD | apply Za | refine bA ?_ _))⟩
set_option maxRecDepth 100000 in
theorem Qp (w:World):Calls Tryz.prog 25 #[] w λr w'=>r=.returned (.bool true)/\Below w.heap.size w w':=by
 have HX:=Ld (λW A (hsl:Ye W W.heap.size A eR)=>by
  have h:=Zwg mR eR A 2 W ⟨by simp [mR];decide,by simp [mR];decide⟩ (by simp [eR]) (by omega) (Zeo Z32) hsl;rw [Zxw Z5q Z32 Z4b] at h;exact h)
 have HE:Hid (∀(w1:World),Ye (w1.alloc (.cells #[.int .i64 22,.int .i64 0,.string ⟨#[97]⟩,.string ⟨#[]⟩,.int .i64 8,.int .i64 0,.string ⟨#[99,111,110,116,101,120,116]⟩,.string ⟨#[]⟩] 37)) (w1.heap.size+1) (some ⟨w1.heap.size,0,none⟩) eR):=by
  intro w1;refine Ye.of_flat (by omega) (λj u hu=>?_);have h:=(Blk.new w1 37 #[.int .i64 22,.int .i64 0,.string ⟨#[97]⟩,.string ⟨#[]⟩,.int .i64 8,.int .i64 0,.string ⟨#[99,111,110,116,101,120,116]⟩,.string ⟨#[]⟩]).cell j;rw [h,<-hu];rw [<-Array.getElem?_toList];rfl
 go_enter Tryz.func25,Tryz.ntmps25
 go_wp2_with fail
 refine (Z3g _ _).mono ?_;rintro r w1 ⟨rfl,hb1⟩;go_wp2_with fail
 refine (HX.out _ _ (by have:=HE.out w1;simpa using this)).mono ?_;rintro r w2 ⟨A2,c2,rfl,h1,h2,h3,hb2⟩;obtain ⟨b,o,rfl,hb,hcs⟩:=h3 (by simp);have d2:=(hcs 0 _ rfl).c2;rw [Nat.zero_mul,Nat.add_zero] at d2;have hw2:Below w.heap.size w w2:=hb1.trans (((by (repeat (first | assumption | exact bR | apply bD | apply Za | refine bA ?_ _)):Below w1.heap.size w1 _).trans (hb2.mono (by simp))).mono hb1.size);have t0:=Zv;clear hb1 hb2 hcs h3;simp only [t0];go_wp2_with fail
 go_ret
 exact ⟨rfl,hw2⟩
end Go.Proofs.YtpheiojmcafolaaGreatDoor
namespace Go.Proofs.YtpheiojmcafolaaGreatDoor
open Go.RowKit Go.Sort
theorem Zwc (m:Mv)(hm:Zq m=0)(vals:Bool)(hvals:vals=true)(k:Nat)(e:List Nd)(x:Nd)(ps:List (List Nd))(hP:Pcs m vals k e x ps)(hek:e.length<=k+1)(h5:x.op=5)(hvx:∀p∈ps,Vx p):Zh4 m vals (k+1) e:=by
 intro w A c hc hcm hsl;obtain ⟨i0,hi,hz0,hz1,hz2⟩:=info_parts Zjk;obtain ⟨j0,hj,hy0,hy1,hy2⟩:=info_parts Ko;obtain ⟨o,ho⟩:∃o,Zt m vals (k+1) e=o:=⟨_,rfl⟩;have h6:¬x.op=6:=by omega
 have HV:Hid (o=match Zy (ps.map (Zt m vals k)) with | none=>none | some qs=>some (V7 qs).1):=by
  show _=_;rw [<-ho,hP.he,Xa m vals k x hP.ex];cases Zy (ps.map (Zt m vals k)) with
  | none=>rfl
  | some qs=>
   simp only;rw [if_neg h6,if_pos ⟨h5,hvals⟩]
 have HVX:Hid (∀p∈ps,∀q,Zt m vals k p=some q->Vx q):=λp hp q hq=>by
  have hle:=Vk hp;have h1:=hP.len.1;have h2:=hP.hl;rw [hvals] at hq;rcases Zr7 hm (hvx p hp) (by omega) k (by omega) with h | ⟨ys,h,h',_⟩
  . rw [h] at hq;cases hq
  . rw [h] at hq;injection hq with hq;subst hq;exact h'
 rw [ho];obtain ⟨n1,n2,n3⟩:=hP.len;have hne:e≠[]:=by rw [hP.he];simp
 obtain ⟨b,of,rfl,hb,hcs⟩:=hsl hne;obtain ⟨d0,d1,d2,d3⟩:=hcs 0 x (by rw [hP.he];rfl);rw [Nat.zero_mul,Nat.add_zero] at d0 d1 d2 d3;have hel:=hP.hl;have HP:=Ld hP;have HS:=Ld hsl;have HL1:=Ld n1;have HNE:=Ld n3;have hps:ps.length<=199:=n2;have he0:(0:Int) < (e.length:Int):=by omega
 have e6:(x.op==6)=false:=by simp [h6]
 have e5:(x.op==5)=true:=by simp [h5]
 have HVS:=Ld hvals;clear h6 h5 hvx hek hvals;clear hP hsl n1 n2 n3 ho hne hcs;go_enter Tryz.func101,Tryz.ntmps101
 go_wp2_with fail
 obtain ⟨W,hW⟩:∃W,w.alloc (.cells #[.int .i64 m.what,.string m.fr,.string m.to_,.bool vals] 128)=W:=⟨_,rfl⟩;have hbW:RowKit.Below w.heap.size w W:=by rw [<-hW];(repeat (first | assumption | exact bR | apply bD | apply Za | refine bA ?_ _))
 have hWz:W.heap.size=w.heap.size+1:=by rw [<-hW];simp
 have HMB:Hid (Zfh m vals w.heap.size W):=by rw [<-hW];exact Zfh.new m vals w
 rw [hW];go_loopw [5,6] (λpv av wr=>∃(j:Nat) (ms:List NsM) (a:Nat),av=.int .i64 a/\j<=ps.length/\a<=e.length/\Hid (a=1+(ps.take j).flatten.length)/\Hid (Zy ((ps.take j).map (Zt m vals k))=some (ms.map NsM.e))/\ms.length<=199/\Hid (wr.ownsRow W.heap.size 22 1 pv ms.length (Zr NsM.cells ms))/\Hid (∀y∈ms,Vd wr pv.ownBlock y)/\RowKit.Below W.heap.size W wr) (λ_ av _=>e.length - (intOf av).toNat)
 case atStart=>exact ⟨0,[],1,rfl,by omega,by omega,rfl,rfl,by simp,World.ownsRow_nil _ _ _ _,by simp [Hid],RowKit.Below.refl _ _⟩
 case round=>
  obtain ⟨j,ms,a,rfl,hj1,ha,HA,HM,hms,HO,HN,hbr⟩:=hrel;have hzr:=hbr.size;have hwr:RowKit.Below w.heap.size w wr:=hbW.trans (hbr.mono (by omega));have hml:Hid (ms.length=j):=by
   show _=_;rcases Y5 (Zt m vals k) (ps.take j) with h | ⟨qs,h,h',_⟩
   . rw [HM.out] at h;cases h
   . rw [HM.out] at h;injection h with h
     rw [<-h] at h';rw [List.length_map,List.length_take] at h';omega
  by_cases hlt:j < ps.length
  . obtain ⟨p,hp⟩:∃p,ps[j]? = some p:=⟨_,gE hlt⟩;have hpm:=mG hp;have hpn:=List.length_pos_iff.2 (HNE.out p hpm);obtain ⟨z,hz⟩:∃z,a+p.length=z:=⟨_,rfl⟩;have hpz:Hid (piece e a z=p):=(by show _=_;rw [<-hz,HA.out,HP.out.he];exact Zc1 hp);have hsk:skP (e.drop a) 1 a=some z:=(by rw [<-hz,HA.out,HP.out.he];exact Zi6 hp (HP.out.ex p hpm));have hze:z<=e.length:=by
     have h1:=Vp hp;have h2:=Kv ps (j+1);have:=HA.out;have:=HL1.out;omega
    have hae:a < e.length:=(by omega);have HSK:=Ld (Zco e (some ⟨b,of,none⟩) c a z wr hel ((HS.out.below hwr).more hwr.size) HP.out.par hsk ha);have HZ:=Ld hz;have HPP:=Ld hp;have haz:a < z:=(by omega);have HC:=Ld (show ∀W',RowKit.Below w.heap.size w W'->Calls Tryz.prog 101 #[.agg #[.int .i64 m.what,.string m.fr,.string m.to_,.bool vals],.slice (some ⟨b,of+a*4,none⟩) (z - a) (c - a)] W' (X6 W' (Zt m vals k p)) from λW' hW'=>by
     have h:=HP.out.ih p hpm W' (some ⟨b,of+a*4,none⟩) (c - a) (by omega) (by omega) (by have:=((HS.out.below hW').more hW'.size).piece a z;rw [hpz.out] at this;exact this);have hl:p.length=z - a:=(by omega);rw [hl] at h;exact h)
    clear hsk hz hp;have q:∀(W:World),(Instr.slice 22 (.slice (some ⟨b,of,none⟩) e.length c) (some (.int .i64 (a:Int))) (some (.int .i64 (z:Int))) none).run Tryz.prog W=.ok (.slice (some ⟨b,of+a*4,none⟩) (z - a) (c - a)) W:=by
     intro W;go_simp
     rw [if_pos (show z<=c by omega),if_pos (show a<=z by omega),if_neg (show ¬c=a by omega)]
    go_wp2_with fail
    refine HSK.out.mono ?_;rintro r w1 ⟨rfl,hb1⟩;obtain ⟨hcc1,hff1⟩:=Xi hb1;have hw1:RowKit.Below W.heap.size W w1:=hbr.trans (hb1.mono hzr);go_wp2_with fail
    have HM1:=Ld (HMB.out.later hw1 (by omega));clear hcc1 hff1;refine Yg (S:=Zfh m vals w.heap.size) [false,false,false,false,false,false,true,true,true,false] (by kernel_rfl) (by kernel_rfl) (λ_ _ _ _ _ h=>h) ⟨HM1.out.c0,HM1.out.c1,HM1.out.c2,HM1.out.c3⟩ (λhW'=>?_);simp only [List.zip_cons_cons,List.zip_nil_left];(repeat ((first | (refine Ze (v:=?_) (by rfl) ?_ ?_;rotate_left;(focus (intro W hW;obtain ⟨s0,s1,s2,s3⟩:=hW;go_simp;try with_reducible rfl))) | refine Zd (by rfl) ?_);simp only [Act.put,pA,pB,pC]))
    refine Zc (λK hK=>?_);go_simp
    refine (HC.out w1.drew (hwr.trans (hb1.mono hwr.size)).drew).mono ?_;rintro r w2 hpost;cases hq:Zt m vals k p with
    | none=>
     obtain ⟨rfl,hb2⟩:=hpost.2 hq;clear hpost;have HQ:=Ld hq;clear hq;have HO:Hid (o=none):=(by show _=_;rw [HV.out,Kx _ ps p (mG HPP.out) HQ.out]);dsimp only;clear hK K;go_wp2_with fail
     rw [HO.out];exact ⟨rfl,X6.twice ((hwr.trans (hb1.mono hwr.size)).trans ((Ya hb2).mono (by have:=hb1.size;have:=hwr.size;omega)))⟩
    | some q1=>
     obtain ⟨A2,c2,rfl,hc2,hcm2,hs2,hb2',hn2⟩:=hpost.1 q1 hq;clear hpost;have HQ:=Ld hq;clear hq;have hb2:=Ya hb2';have hv1:=hb1.size;have hv2:=hb2.size;have hw2:RowKit.Below W.heap.size W w2:=hw1.trans (hb2.mono hw1.size);refine hK _ _ (HMB.out.later hw2 (by omega)) ?_;clear hK K;have hw3:RowKit.Below W.heap.size W (w2.alloc (.cells #[.slice A2 q1.length c2] 22)):=hw2.alloc (by omega) _;refine Zc (λK hK=>?_);go_simp
     refine hK _ _ (HMB.out.later hw3 (by omega)) ?_;clear hK K;have HO2:=Ld (Zu (Zu (Zu HO.out hb1) hb2) (by (repeat (first | assumption | exact bR | apply bD | apply Za | refine bA ?_ _)):RowKit.Below w2.heap.size w2 (w2.alloc (.cells #[.slice A2 q1.length c2] 22))));refine Ug (by rfl) (.tmp 19) (.tmp 26) 152 rfl W.heap.size 22 i0 _ 1 24 Tryz.underlying152 hi hz0 hz1 hz2 rfl (by omega) u5 ms.length (Zr NsM.cells ms) rfl HO2.out ⟨w2.heap.size,0,none⟩ 1 1 [.slice A2 q1.length c2] rfl rfl (cell_one_new _ _ _) (by simp [Value.oneCell']) (by unfold maxLen;omega) (by omega) (by simp;omega) ?_;intro v6 w6 hown6 hgrow6 _ hloc6;have hb6:RowKit.Below W.heap.size W w6:=hw3.grown hgrow6 (by simp;omega) (λq hq=>(Yf HO.out hq).1);refine ⟨HMB.out.later hb6 (by omega),?_⟩;(repeat ((first | (refine Ze (v:=?_) (by rfl) ?_ ?_;rotate_left;(focus (intro W hW;obtain ⟨s0,s1,s2,s3⟩:=hW;go_simp;try with_reducible rfl))) | refine Zd (by rfl) ?_);simp only [Act.put,pA,pB,pC]))
     refine Yj ?_;have hq1:=HP.out.out p (mG HPP.out) q1 HQ.out;have HN2:Hid (Vd w2 u5.ownBlock ⟨A2,c2,q1⟩):=Yq.fresh (B:=w1.heap.size) ⟨hs2,hc2,hcm2⟩ hn2 (λb hb=>Nat.lt_of_lt_of_le (Yf HO.out hb).2 hv1);have HN6:=Ld (Zmy (x:=⟨A2,c2,q1⟩) (wr:=w2) (by (repeat (first | assumption | exact bR | apply bD | apply Za | refine bA ?_ _))) (λy hy=>((HN.out y hy).later hb1).later hb2) (HN2.out.later (by (repeat (first | assumption | exact bR | apply bD | apply Za | refine bA ?_ _)))) hgrow6 hloc6);have HM6:Hid (Zy ((ps.take (j+1)).map (Zt m vals k))=some ((ms ++ [(⟨A2,c2,q1⟩:NsM)]).map NsM.e)):=by
      show _=_;rw [Kw _ ps _ j p q1 HM.out HPP.out HQ.out,List.map_append];rfl
     have HA6:Hid (z=1+(ps.take (j+1)).flatten.length):=(by show _=_;rw [Vp HPP.out,<-HZ.out,HA.out];omega);have hm6:(ms ++ [(⟨A2,c2,q1⟩:NsM)]).length<=199:=(by rw [List.length_append,List.length_singleton];have:=hml.out;omega);go_wp2_with fail
     exact ⟨⟨j+1,ms ++ [⟨A2,c2,q1⟩],z,by go_num,by omega,hze,HA6,HM6,hm6,by rw [List.length_append,Q1];exact hown6,HN6,hb6⟩,by simp [intOf];omega⟩
  . have hjp:j=ps.length:=(by omega);have HM2:Hid (Zy (ps.map (Zt m vals k))=some (ms.map NsM.e)):=by
     have:=HM.out;rw [hjp,List.take_of_length_le (nL _)] at this;exact this
    have hae:¬a < e.length:=by
     have h1:=HA.out;have h2:=HL1.out;rw [hjp,List.take_of_length_le (nL _)] at h1;omega
    have HOV:Hid (o=some (V7 (ms.map NsM.e)).1):=by
     show _=_;rw [HV.out,HM2.out]
    have HPE:Hid (∀y∈ms,Vx y.e):=by
     intro y hy;rcases Y5 (Zt m vals k) ps with h | ⟨qs,h,_,h'⟩
     . rw [HM2.out] at h;cases h
     . rw [HM2.out] at h;injection h with h
       obtain ⟨p,hp,hpq⟩:=h' y.e (by rw [<-h];exact List.mem_map_of_mem hy);exact HVX.out p hp _ hpq
    have hcl:(Xl ms).length<=199:=by
     have h1:=Ua _ _ _ HM2.out (λp hp q hq=>(HP.out.out p hp q hq).2);rw [<-Uv rfl] at h1;have:=HL1.out;omega
    have HSV:Hid (Zm9 (ms.map NsM.e)=((V7 (ms.map NsM.e)).1,0)):=by
     show _=_;have hq:∀q∈ms.map NsM.e,Vx q:=λq hq=>by obtain ⟨y,hy,rfl⟩:=List.mem_map.1 hq;exact HPE.out y hy
     have hl2:(ms.map NsM.e).flatten.length+1<=200:=(by rw [<-Uv rfl];omega);obtain ⟨h1,h2,h3⟩:=Zch hq hl2;rw [h1];unfold Zm9;rw [if_neg (by omega)]
    obtain ⟨-,Ap,cp,hv,hcp,hcm',hsp⟩:=Y1 Zbv HO.out;subst hv;have HNS:Hid (X8 wr Ap ms):=⟨hsp,λy hy=>(HN.out y hy).good⟩;have HNV:Hid (∀y∈ms,Zb y.e=0):=λy hy=>(Z0 y.e).2 ⟨by
     have h1:y.e.length<=(ms.map NsM.e).flatten.length:=Vk (List.mem_map_of_mem hy);rw [<-Uv rfl] at h1;omega,HPE.out y hy⟩
    have HNK:Hid (∀y∈ms,Y0 y.e):=λy hy=>Zzw (Vf (HPE.out y hy));have f0:=(hwr.cell (p:=⟨b,of,none⟩) hb).trans d0;have hbr':b < wr.heap.size:=(by have:=hwr.size;omega);have HMr:=Ld (HMB.out.later hbr (by omega));have f3:=HMr.out.c3;rw [HVS.out] at f3;clear d0 d1 d2 d3 hsp HO HN HM HV hml HA;have hlw:w.heap.size < wr.heap.size:=(by omega);go_wp2_with fail
    refine (Zkz ms Ap cp wr HNS.out HNV.out HNK.out (by omega)).mono ?_;rintro r w2 ⟨A2,c2,rfl,h21,h22,h23,h24,h25⟩;have H23:=Ld h23;have H21:=Ld h21;have H25:=Ld h25;clear h23 h21 h25;go_wp2_with fail
    go_ret
    rw [HOV.out];have h1:=H21.out;have h3:=H23.out;rw [HSV.out] at h1 h3 ⊢;exact X6.done ⟨A2,c2,rfl,h1,h22,h3,hwr.trans (h24.mono hwr.size),λb o h=>by have:=H25.out b o h;omega⟩
end Go.Proofs.YtpheiojmcafolaaGreatDoor
namespace Go.Proofs.YtpheiojmcafolaaGreatDoor
open Go.RowKit
def Un (m:Mv)(e:List Nd):List Nd × Int:=
 if Zq m≠0 then ([],Zq m) else if Zb e≠0 then ([],Zb e) else ((Z1p m e).getD [],if (Z1p m e).isSome=true then 0 else 6)
set_option maxRecDepth 100000 in
theorem Zhw (m:Mv)(e:List Nd)(A:Option Addr)(c:Nat)(w:World)(hz:MvZ m)(hc:e.length<=c)(hcm:c<=9223372036854775807)(hok:Y0 e)(hsl:Ye w w.heap.size A e) :
 Calls Tryz.prog 32 #[.agg #[.int .i64 m.what,.string m.fr,.string m.to_],.slice A e.length c] w λr w'=>Zcm w r w' (Un m e).1 (Un m e).2:=by
 have HC:=Ld (λW=>Vy m W hz);have HT:=Ld (λW (hW:Below w.heap.size w W)=>Ve e A c W hc hcm hok ((hsl.below hW).more hW.size));by_cases hm:Zq m=0
 . have tm:(Zq m != 0)=false:=by simp [hm]
   by_cases he:Zb e=0
   . have te:(Zb e != 0)=false:=(by simp [he]);have HV:Hid (Un m e=((Z1p m e).getD [],if (Z1p m e).isSome=true then 0 else 6)):=(by show _=_;unfold Un;rw [if_neg (by simp [hm]),if_neg (by simp [he])]);have hex:=(Z0 e).1 he;have HA:=Ld (λW (hW:Below w.heap.size w W)=>Zfm m true e (Zc0 hm (λ_ k e x ps hP hk h5 hv=>Zwc m hm true rfl k e x ps hP hk h5 hv) e.length e (.inr ⟨rfl,.inl hex.2⟩) hex.1 (nL _)) A c W hc hcm ((hsl.below hW).more hW.size));clear hm he hex hsl hok;go_enter Tryz.func32,Tryz.ntmps32
     go_wp2_with fail
     refine (HC.out _).mono ?_;rintro r w1 ⟨rfl,hb1⟩;have hw1:Below w.heap.size w w1:=Below.trans (by (repeat (first | assumption | exact bR | apply bD | apply Za | refine bA ?_ _))) (hb1.mono (by simp));obtain ⟨hcc,-⟩:=Xi hb1;have hs1:w.heap.size < w1.heap.size:=(by have:=hb1.size;simp at this;omega);clear hb1;go_wp2_with fail
     refine (HT.out _ hw1).mono ?_;rintro r w2 ⟨rfl,hb2⟩;have hw2:=hw1.trans (hb2.mono hw1.size);obtain ⟨hcc2,-⟩:=Xi hb2;clear hb2;go_wp2_with fail
     refine (HA.out _ hw2).mono ?_;rintro r w3 ⟨A3,c3,rfl,h31,h32,h33,hb3,h34⟩;have H34:=Ld h34;have H33:=Ld h33;have H31:=Ld h31;have HVV:Hid ((Un m e).1=(Zt m true e.length e).getD []/\(Un m e).2=if (Zt m true e.length e).isSome=true then 0 else 6):=(by rw [HV.out];exact ⟨rfl,rfl⟩);clear h33 h31 h34 HA HV hcc hcc2;generalize (Zt m true e.length e).getD []=ys at *;generalize (if (Zt m true e.length e).isSome=true then (0:Int) else 6)=kk at *;go_wp2_with fail
     go_ret2
     rw [HVV.out.1,HVV.out.2];exact ⟨A3,c3,rfl,H31.out,h32,H33.out,hw2.trans (hb3.mono hw2.size),λb o e=>by have:=H34.out b o e;have:=hw2.size;omega⟩
   . have te:(Zb e != 0)=true:=(by simp [he]);have HV:Hid (Un m e=([],Zb e)):=(by show _=_;unfold Un;rw [if_neg (by simp [hm]),if_pos he]);clear hm he hsl hok;generalize Zb e=k at HT te HV;go_enter Tryz.func32,Tryz.ntmps32
     go_wp2_with fail
     refine (HC.out _).mono ?_;rintro r w1 ⟨rfl,hb1⟩;have hw1:Below w.heap.size w w1:=Below.trans (by (repeat (first | assumption | exact bR | apply bD | apply Za | refine bA ?_ _))) (hb1.mono (by simp));clear hb1;go_wp2_with fail
     refine (HT.out _ hw1).mono ?_;rintro r w2 ⟨rfl,hb2⟩;have hw2:=hw1.trans (hb2.mono hw1.size);clear hb2;go_wp2_with fail
     go_ret2
     rw [HV.out];exact Zcm.none hw2
 . have tm:(Zq m != 0)=true:=by simp [hm]
   have HV:Hid (Un m e=([],Zq m)):=by show _=_;unfold Un;rw [if_pos hm]
   clear hm hsl hok;generalize Zq m=k at HC tm HV;go_enter Tryz.func32,Tryz.ntmps32
   go_wp2_with fail
   refine (HC.out _).mono ?_;rintro r w1 ⟨rfl,hb1⟩;have hw1:Below w.heap.size w w1:=Below.trans (by (repeat (first | assumption | exact bR | apply bD | apply Za | refine bA ?_ _))) (hb1.mono (by simp));clear hb1;go_wp2_with fail
   go_ret2
   rw [HV.out];exact Zcm.none hw1
end Go.Proofs.YtpheiojmcafolaaGreatDoor
namespace Go.Proofs.YtpheiojmcafolaaGreatDoor
open Go.RowKit Go.Sort
theorem Zcc (m:Mv)(u:Ud)(w:World) :
 Calls Tryz.prog 69 #[.agg #[.int .i64 m.what,.string m.fr,.string m.to_],.agg #[.string u.ty,.string u.id]] w λe w'=>e=.returned (.agg #[.string (mvU m u).ty,.string (mvU m u).id])/\RowKit.Below w.heap.size w w':=by
 obtain ⟨y,hy⟩:∃y,mvU m u=y:=⟨_,rfl⟩;rw [hy];have HY:=Ld hy;clear hy;by_cases h2:m.what=2
 . have e2:(m.what==2)=true:=by simp [h2]
   by_cases hs:u.ty.toList=m.fr.toList
   . have es:(u.ty.toList==m.fr.toList)=true:=(by simp [hs]);have HV:Hid (y=⟨m.to_,u.id⟩):=(by show _=_;rw [<-HY.out];unfold mvU rnS;rw [if_pos ⟨h2,hs⟩]);clear hs h2;go_enter Tryz.func69,Tryz.ntmps69
     go_wp2_with fail
     refine bodyPost_ret (v:=.agg #[.string y.ty,.string y.id]) (by rw [HV.out];simp [results,Tryz.results69,go_sem]) rfl ⟨rfl,?_⟩;repeat (first | exact RowKit.Below.refl _ _ | (refine RowKit.Below.setCell ?_ (by first | (simp;done) | (simp;omega)) _) | (refine RowKit.Below.alloc ?_ (by first | exact nL _ | (simp;done) | (simp;omega)) _))
   . have es:(u.ty.toList==m.fr.toList)=false:=(by simp [hs]);have HV:Hid (y=u):=(by show _=_;rw [<-HY.out];unfold mvU rnS;rw [if_neg (λh=>hs h.2)]);clear hs h2;go_enter Tryz.func69,Tryz.ntmps69
     go_wp2_with fail
     refine bodyPost_ret (v:=.agg #[.string y.ty,.string y.id]) (by rw [HV.out];simp [results,Tryz.results69,go_sem]) rfl ⟨rfl,?_⟩;repeat (first | exact RowKit.Below.refl _ _ | (refine RowKit.Below.setCell ?_ (by first | (simp;done) | (simp;omega)) _) | (refine RowKit.Below.alloc ?_ (by first | exact nL _ | (simp;done) | (simp;omega)) _))
 . have e2:(m.what==2)=false:=by simpa using h2
   have HV:Hid (y=u):=by show _=_;rw [<-HY.out];unfold mvU rnS;rw [if_neg (λh=>h2 h.1)]
   clear h2;go_enter Tryz.func69,Tryz.ntmps69
   go_wp2_with fail
   refine bodyPost_ret (v:=.agg #[.string y.ty,.string y.id]) (by rw [HV.out];simp [results,Tryz.results69,go_sem]) rfl ⟨rfl,?_⟩;repeat (first | exact RowKit.Below.refl _ _ | (refine RowKit.Below.setCell ?_ (by first | (simp;done) | (simp;omega)) _) | (refine RowKit.Below.alloc ?_ (by first | exact nL _ | (simp;done) | (simp;omega)) _))
end Go.Proofs.YtpheiojmcafolaaGreatDoor
namespace Go.Proofs.YtpheiojmcafolaaGreatDoor
open Go.RowKit
theorem Zui {e:List Nd}(h0:Zo e=0):∀y∈e,0<=Zl y/\Zl y<=200:=λy hy=>by
 obtain ⟨j,hj⟩:=List.getElem?_of_mem hy;obtain ⟨s,hs,hsl⟩:=Ztt h0 hj;obtain ⟨_,_,q1,q2⟩:=Zll hs hj;have:=(Zca h0).1;omega
theorem Zxm {x:Nd}(hs:Zx x=true)(hp:0<=Zl x/\Zl x<=200)(h2:¬x.op=2):I64 x.n:=by
 have hb:∀{a b:Bool},(a && b)=true->a=true/\b=true:=λh=>by simpa using h
 unfold I64;unfold Zx at hs;split at hs
 . rename_i h1;rw [Zpt h1] at hs;unfold Zj at hs;rcases h1 with h | h | h | h
   . rw [if_pos h] at hs;have:=(hb (hb hs).1).1;simp at this;omega
   . exact absurd h h2
   . rw [if_neg (by omega),if_neg (by omega),if_pos h] at hs;have:=(hb (hb hs).1).1;simp at this;omega
   . rw [if_neg (by omega),if_neg (by omega),if_neg (by omega),if_pos h] at hs;have:=(hb (hb hs).1).1;simp at this;omega
 . split at hs
   . rename_i h1 h5;have:Zl x=x.n:=(by unfold Zl;rw [if_neg (by omega),if_pos h5]);omega
   . split at hs
     . have:=(hb (hb hs).1).1;simp at this;omega
     . split at hs
       . have:=(hb (hb hs).1).1;simp at this;omega
       . split at hs
         . have:=(hb (hb hs).1).1;simp at this;omega
         . have:=(hb (hb (hb hs).1).1).2;simp at this;omega
theorem Zjc {e:List Nd}(h:Zo e=0)(h2:∀x∈e,x.op=2->I64 x.n):NdI e:=λx hx=>by
 by_cases h2':x.op=2
 . exact h2 x hx h2'
 . exact Zxm (Zft ((Xd e).1 h).2 x hx) (Zui h x hx) h2'
section
variable {α : Type} (nm : α -> List UInt8) (fb : α -> Bool) (pe1 pe2 : α -> Int) (vt : α -> Int)
def Zau:List α->List (List UInt8)->Int
 | [],_=>0
 | p :: r,met=>if pe1 p≠0 then pe1 p else if nm p∈met then 6 else if pe2 p≠0 then pe2 p else Zau r (met ++ [nm p])
def Ze9 (ps:List α):Int:=if 12 < ps.length then 4 else Zau nm pe1 pe2 ps []
theorem Zk4:∀(ps:List α) (met:List (List UInt8)),Zau nm pe1 pe2 ps met=0 ↔ (∀p∈ps,pe1 p=0/\pe2 p=0/\nm p ∉ met)/\(ps.map nm).Nodup
 | [],met=>by simp [Zau]
 | p :: r,met=>by
  rw [Zau];by_cases h1:pe1 p=0
  . rw [if_neg (by simp [h1])];by_cases h2:nm p∈met
    . rw [if_pos h2];simp [h2]
    . rw [if_neg h2];by_cases h3:pe2 p=0
      . rw [if_neg (by simp [h3]),Zk4 r];simp only [List.mem_cons,List.map_cons,List.nodup_cons,List.mem_append,List.mem_map,List.not_mem_nil,or_false,not_or];constructor
        . rintro ⟨h,hn⟩;refine ⟨?_,?_,hn⟩
          . rintro q (rfl | hq)
            . exact ⟨h1,h3,h2⟩
            . have:=h q hq;exact ⟨this.1,this.2.1,this.2.2.1⟩
          . rintro ⟨q,hq,e⟩;exact (h q hq).2.2.2 e
        . rintro ⟨h,hp,hn⟩;refine ⟨λq hq=>?_,hn⟩;have:=h q (.inr hq);exact ⟨this.1,this.2.1,this.2.2,λe=>hp ⟨q,hq,e⟩⟩
      . rw [if_pos h3];simp [h3]
  . rw [if_pos h1];simp [h1]
theorem Ztv (ps:List α):Ze9 nm pe1 pe2 ps=0 ↔ ps.length<=12/\(∀p∈ps,pe1 p=0/\pe2 p=0)/\(ps.map nm).Nodup:=by
 unfold Ze9;by_cases h:12 < ps.length
 . rw [if_pos h];simp;omega
 . rw [if_neg h,Zk4];simp only [List.not_mem_nil,not_false_eq_true,and_true];constructor
   . rintro ⟨a,b⟩;exact ⟨by omega,a,b⟩
   . rintro ⟨-,a,b⟩;exact ⟨a,b⟩
def Yz (ps:List α):List (List UInt8):=(ps.filter λp=>vt p==1 && fb p).map nm
def Xg (ps:List α):List (List UInt8):=(ps.filter λp=>vt p==1 && !fb p).map nm
def Up (ps:List α):List (List UInt8):=(ps.filter λp=>vt p == -1).map nm
def byP (ps:List α):List (List UInt8):=if Yz nm fb vt ps = [] then Xg nm fb vt ps else Yz nm fb vt ps
def Qv (ps:List α):Bool:=(Yz nm fb vt ps).isEmpty && !(Xg nm fb vt ps).isEmpty
variable {nm fb pe1 pe2 vt}
theorem Zoo {ps:List α}:Yz nm fb vt ps = [] ↔ ∀p∈ps,¬(vt p=1/\fb p=true):=by
 unfold Yz;simp [List.filter_eq_nil_iff]
theorem Zoi {ps:List α}:Xg nm fb vt ps = [] ↔ ∀p∈ps,¬(vt p=1/\fb p=false):=by
 unfold Xg;simp [List.filter_eq_nil_iff]
theorem Zor {ps:List α}{s:List UInt8}:s∈Yz nm fb vt ps ↔ ∃p∈ps,vt p=1/\fb p=true/\nm p=s:=by
 unfold Yz;simp [and_assoc]
theorem Zox {ps:List α}{s:List UInt8}:s∈Xg nm fb vt ps ↔ ∃p∈ps,vt p=1/\fb p=false/\nm p=s:=by
 unfold Xg;simp [and_assoc]
theorem Zsp:∀{ps:List α},(ps.map nm).Nodup->∀{p q:α},p∈ps->q∈ps->nm p=nm q->p=q
 | [],_,_,_,h,_,_=>by cases h
 | x :: r,hn,p,q,hp,hq,e=>by
  rw [List.map_cons,List.nodup_cons] at hn;rcases List.mem_cons.1 hp with rfl | hp'
  . rcases List.mem_cons.1 hq with rfl | hq'
    . rfl
    . exact absurd (e ▸ List.mem_map_of_mem hq') hn.1
  . rcases List.mem_cons.1 hq with rfl | hq'
    . exact absurd (e ▸ List.mem_map_of_mem hp') hn.1
    . exact Zsp hn.2 hp' hq' e
theorem apart {ps:List α}(hn:(ps.map nm).Nodup):byP nm fb vt (ps.filter λp=>(byP nm fb vt ps).contains (nm p))=byP nm fb vt ps /\
 Qv nm fb vt (ps.filter λp=>(byP nm fb vt ps).contains (nm p))=Qv nm fb vt ps/\Up nm vt (ps.filter λp=>(byP nm fb vt ps).contains (nm p)) = []:=by
 by_cases h0:Yz nm fb vt ps = []
 . have hb:byP nm fb vt ps=Xg nm fb vt ps:=by unfold byP;rw [if_pos h0]
   have hk:(ps.filter λp=>(byP nm fb vt ps).contains (nm p))=ps.filter λp=>vt p==1 && !fb p:=by
    refine List.filter_congr λp hp=>?_;rw [hb,Bool.eq_iff_iff,List.contains_iff_mem,Zox];simp only [Bool.and_eq_true,beq_iff_eq,Bool.not_eq_true'];constructor
    . rintro ⟨q,hq,hv,hf,e⟩;rw [<-Zsp hn hq hp e];exact ⟨hv,hf⟩
    . rintro ⟨hv,hf⟩;exact ⟨p,hp,hv,hf,rfl⟩
   rw [hk];have hf:Yz nm fb vt (ps.filter λp=>vt p==1 && !fb p) = []:=by
    rw [Zoo];intro p hp;simp at hp;simp [hp.2.2]
   have hpm:Xg nm fb vt (ps.filter λp=>vt p==1 && !fb p)=Xg nm fb vt ps:=by
    unfold Xg;rw [List.filter_filter];congr 1;refine List.filter_congr λp _=>?_;simp
   refine ⟨by unfold byP;rw [if_pos hf,if_pos h0,hpm],by unfold Qv;rw [hf,h0,hpm],?_⟩;unfold Up;rw [List.filter_filter,List.filter_eq_nil_iff.2 ?_];· rfl
   intro p _;simp;intro h;simp [h]
 . have hb:byP nm fb vt ps=Yz nm fb vt ps:=by unfold byP;rw [if_neg h0]
   have hk:(ps.filter λp=>(byP nm fb vt ps).contains (nm p))=ps.filter λp=>vt p==1 && fb p:=by
    refine List.filter_congr λp hp=>?_;rw [hb,Bool.eq_iff_iff,List.contains_iff_mem,Zor];simp only [Bool.and_eq_true,beq_iff_eq];constructor
    . rintro ⟨q,hq,hv,hf,e⟩;rw [<-Zsp hn hq hp e];exact ⟨hv,hf⟩
    . rintro ⟨hv,hf⟩;exact ⟨p,hp,hv,hf,rfl⟩
   rw [hk];have hf:Yz nm fb vt (ps.filter λp=>vt p==1 && fb p)=Yz nm fb vt ps:=by
    unfold Yz;rw [List.filter_filter];congr 1;refine List.filter_congr λp _=>?_;simp
   have hpm:Xg nm fb vt (ps.filter λp=>vt p==1 && fb p) = []:=by
    rw [Zoi];intro p hp;simp at hp;simp [hp.2.2]
   refine ⟨by rw [hb];unfold byP;rw [hf,if_neg h0],?_,?_⟩
   . have e:(Yz nm fb vt ps).isEmpty=false:=(by cases h:Yz nm fb vt ps;exact absurd h h0;rfl);unfold Qv;rw [hf,hpm,e];rfl
   . unfold Up;rw [List.filter_filter,List.filter_eq_nil_iff.2 ?_];· rfl
     intro p _;simp;intro h;simp [h]
end
def eB:ByteArray:=⟨#[]⟩
def qB (v:ByteArray):ByteArray:=⟨#[63]⟩++v
def Xz (v:ByteArray):Nd:=⟨8,0,v,eB⟩
def opN (k:Int):Nd:=⟨k,0,eB,eB⟩
def Zae (u:Ud):Nd:=⟨4,0,u.ty,u.id⟩
def Yt (s:Sc)(v:ByteArray):List Nd:=
 if s.op=1 then [opN 14,Xz v,Zae s.uid]
 else if s.op=2 then [opN 20,Xz v,Zae s.uid]
 else if s.op=3 then [⟨24,0,s.ty,eB⟩,Xz v]
 else if s.op=4 then [opN 11,⟨24,0,s.ty,eB⟩,Xz v,opN 20,Xz v,Zae s.uid]
 else if s.op=5 then [opN 14,Xz v,Xz (qB v)]
 else if s.op=6 then [opN 20,Xz v,Xz (qB v)]
 else [⟨1,1,eB,eB⟩]
def Jo (a b:List Nd):List Nd:=opN 11 :: (a++b)
theorem Zjf (a b:List Nd):(Jo a b).length=a.length+b.length+1:=by simp [Jo]
theorem Znf (a b:List Nd):Jo a b≠[]:=List.cons_ne_nil _ _
abbrev prB:ByteArray:=⟨#[112,114,105,110,99,105,112,97,108]⟩
abbrev acB:ByteArray:=⟨#[97,99,116,105,111,110]⟩
abbrev reB:ByteArray:=⟨#[114,101,115,111,117,114,99,101]⟩
def Uk (c:Cd):List Nd:=if c.unless_=true then opN 9 :: c.expr else c.expr
def V1 (p:Po):List Nd:=Jo (Jo (Yt p.who prB) (Yt p.act acB)) (Yt p.what reB)
def Vo (p:Po):List Nd:=p.conds.foldl (λe c=>Jo e (Uk c)) (V1 p)
def Yv (p:Po):List Nd × Int:=if Ys p≠0 then ([],Ys p) else if 200 < (Vo p).length then ([],4) else (Vo p,0)
theorem Zdb {p:Po}:Ys p=0 ↔ Zf p.name.toList=0/\Vv p.who true=true/\Vv p.act false=true/\Vv p.what true=true/\p.conds.length<=4/\V8 p.conds=0:=by
 unfold Ys;by_cases h1:Zf p.name.toList=0
 . rw [if_neg (by simp [h1])];by_cases h2:Vv p.who true=false\/Vv p.act false=false\/Vv p.what true=false
   . rw [if_pos h2];constructor
     . intro h;cases h
     . rintro ⟨_,a,b,c,_⟩;rcases h2 with h | h | h
       . rw [a] at h;cases h
       . rw [b] at h;cases h
       . rw [c] at h;cases h
   . rw [if_neg h2];simp only [not_or,Bool.not_eq_false] at h2;by_cases h3:4 < p.conds.length
     . rw [if_pos h3];constructor
       . intro h;cases h
       . rintro ⟨_,_,_,_,a,_⟩;omega
     . rw [if_neg h3];exact ⟨λh=>⟨h1,h2.1,h2.2.1,h2.2.2,by omega,h⟩,λh=>h.2.2.2.2.2⟩
 . rw [if_pos h1];exact ⟨λh=>absurd h h1,λh=>absurd h.1 h1⟩
end Go.Proofs.YtpheiojmcafolaaGreatDoor
namespace Go.Proofs.YtpheiojmcafolaaGreatDoor
open Go.RowKit Go.Sort
theorem Zna (n:Nd)(h:Zx n=true)(h0:Zl n=0)(h7:(n.op==7)=false):Ex (.one false) [n]:=
 .one n [] false h h7 (by rw [h0];exact .nil _ _)
theorem Zuf (n m:Nd)(xs:List Nd)(h:Zx n=true)(h1:Zl n=1)(h7:(n.op==7)=false)(h6:(n.op==6)=false)(hx:Ex (.one false) (m :: xs)):Ex (.one false) (n :: m :: xs):=by
 refine .one n _ false h h7 ?_;rw [h1,h6];have:=Ex.cons 0 false ⟨#[]⟩ m xs [] (by simp) hx (.nil _ _);rwa [List.append_nil] at this
theorem K7 (n:Nd)(a b:List Nd)(h:Zx n=true)(h2:Zl n=2)(h7:(n.op==7)=false)(h6:(n.op==6)=false)(ha:Ex (.one false) a)(hb:Ex (.one false) b):Ex (.one false) (n :: (a++b)):=by
 refine .one n _ false h h7 ?_;rw [h2,h6];cases ha with
 | one m xs _ s1 s2 s3=>
  cases hb with
  | one m' ys _ t1 t2 t3=>
   have hb':=Ex.cons 0 false ⟨#[]⟩ m' ys [] (by simp) (.one m' ys false t1 t2 t3) (.nil _ _);rw [List.append_nil] at hb';exact Ex.cons 1 false ⟨#[]⟩ m xs (m' :: ys) (by simp) (.one m xs false s1 s2 s3) hb'
theorem Vg {k:Int}(h:k=9\/k=11\/k=14\/k=20):Zx (opN k)=true:=by
 rcases h with rfl | rfl | rfl | rfl <;> simp [Zx,opN,eB,Zl,ByteArray.toList_eq]
theorem Zam {a b:List Nd}(ha:Ex (.one false) a)(hb:Ex (.one false) b):Ex (.one false) (Jo a b):=
 K7 (opN 11) a b (Vg (by simp)) rfl rfl rfl ha hb
theorem Zg4 {v:ByteArray}(h:Xb v.toList=true):Ex (.one false) [Xz v]:=
 Zna _ (by simp [Zx,Xz,eB,ByteArray.toList_eq] at h ⊢;exact h) rfl rfl
theorem Zy5 {u:Ud}(h:Zw u=0):Zf u.ty.toList=0/\Yi u.id.toList=0:=by
 unfold Zw at h;split at h
 . exact ⟨‹_›,h⟩
 . rename_i hn;exact absurd h hn
theorem Zea {u:Ud}(h:Zw u=0):Ex (.one false) [Zae u]:=by
 obtain ⟨hn,ht⟩:=Zy5 h;exact Zna _ (by rw [Zdj (by simp [Zae])];simp [Zj,Zae,hn,ht]) rfl rfl
theorem Z01:Ex (.one false) [(⟨1,1,eB,eB⟩:Nd)]:=
 Zna _ (by rw [Zdj (by simp)];simp [Zj,eB,ByteArray.toList_eq]) rfl rfl
theorem Zw6 {t v:ByteArray}(h:Zf t.toList=0)(hv:Xb v.toList=true):Ex (.one false) [(⟨24,0,t,eB⟩:Nd),Xz v]:=
 Zuf _ _ _ (by simp [Zx,eB,ByteArray.toList_eq] at h ⊢;exact h) rfl rfl rfl (Zg4 hv)
structure Zq6 (v:ByteArray):Prop where
 pv:Xb v.toList=true
 pq:Xb (qB v).toList=true
 pn:v.toList.head?≠some 63
theorem Zmp (v:ByteArray):(qB v).toList=63 :: v.toList:=by
 rw [ByteArray.toList_eq,ByteArray.toList_eq];unfold qB;simp
theorem Jm {s:Sc}{b:Bool}{v:ByteArray}(h:Vv s b=true)(hv:Zq6 v):Ex (.one false) (Yt s v):=by
 have e:=Zg4 hv.pv;have q:=Zg4 hv.pq;unfold Yt;by_cases h1:s.op=1
 . rw [if_pos h1];have:Zw s.uid=0:=by simp [Vv,h1,Qz] at h;exact h.1
   exact K7 _ _ _ (Vg (by simp)) rfl rfl rfl e (Zea this)
 rw [if_neg h1];by_cases h2:s.op=2
 . rw [if_pos h2];have:Zw s.uid=0:=by simp [Vv,h2,Qz] at h;exact h.1
   exact K7 _ _ _ (Vg (by simp)) rfl rfl rfl e (Zea this)
 rw [if_neg h2];by_cases h3:s.op=3
 . rw [if_pos h3];have:Zf s.ty.toList=0:=by simp [Vv,h3] at h;exact h.1
   exact Zw6 this hv.pv
 rw [if_neg h3];by_cases h4:s.op=4
 . rw [if_pos h4];have h':Zf s.ty.toList=0/\Zw s.uid=0:=by simp [Vv,h4,Qz] at h;exact h
   exact K7 (opN 11) [⟨24,0,s.ty,eB⟩,Xz v] [opN 20,Xz v,Zae s.uid] (Vg (by simp)) rfl rfl rfl (Zw6 h'.1 hv.pv) (K7 _ _ _ (Vg (by simp)) rfl rfl rfl e (Zea h'.2))
 rw [if_neg h4];by_cases h5:s.op=5
 . rw [if_pos h5];exact K7 _ _ _ (Vg (by simp)) rfl rfl rfl e q
 rw [if_neg h5];by_cases h6:s.op=6
 . rw [if_pos h6];exact K7 _ _ _ (Vg (by simp)) rfl rfl rfl e q
 rw [if_neg h6];exact Z01
theorem Zh3 {c:Cd}(h:Xe c.expr=0):Ex (.one false) (Uk c):=by
 have ht:Zo c.expr=0:=by
  unfold Xe at h;split at h
  . rename_i hn;exact absurd h hn
  . rename_i hn;simpa using hn
 have hx:=((Xd _).1 ht).2;unfold Uk;generalize c.expr=e at hx;split
 . cases hx with
   | one m xs _ s1 s2 s3=>exact Zuf _ _ _ (Vg (by simp)) rfl rfl rfl (.one m xs false s1 s2 s3)
 . exact hx
theorem Zei {l:List Cd}(h:V8 l=0):∀c∈l,Xe c.expr=0:=by
 induction l with
 | nil=>simp
 | cons y r ih=>
  have e:V8 (y :: r)=if Xe y.expr≠0 then Xe y.expr else V8 r:=rfl;rw [e] at h;by_cases hn:Xe y.expr=0
  . rw [if_neg (by simp [hn])] at h;intro c hc;rcases List.mem_cons.1 hc with rfl | hc
    . exact hn
    . exact ih h c hc
  . rw [if_pos hn] at h;exact absurd h hn
def Zdz (e0:List Nd)(l:List Cd):List Nd:=l.foldl (λe c=>Jo e (Uk c)) e0
theorem Zp0 {e0:List Nd}{l:List Cd}(h0:Ex (.one false) e0)(h:∀c∈l,Xe c.expr=0):Ex (.one false) (Zdz e0 l):=by
 induction l generalizing e0 with
 | nil=>exact h0
 | cons y r ih=>exact ih (Zam h0 (Zh3 (h y (List.mem_cons_self ..)))) λc hc=>h c (List.mem_cons_of_mem _ hc)
theorem Zcw:Zq6 prB:=⟨by rw [ByteArray.toList_eq];decide,by rw [Zmp,ByteArray.toList_eq];decide,by rw [ByteArray.toList_eq];decide⟩
theorem Zcp:Zq6 acB:=⟨by rw [ByteArray.toList_eq];decide,by rw [Zmp,ByteArray.toList_eq];decide,by rw [ByteArray.toList_eq];decide⟩
theorem Zcl:Zq6 reB:=⟨by rw [ByteArray.toList_eq];decide,by rw [Zmp,ByteArray.toList_eq];decide,by rw [ByteArray.toList_eq];decide⟩
theorem Z16 {p:Po}(h:Ys p=0):Ex (.one false) (Vo p):=by
 obtain ⟨_,h1,h2,h3,_,h5⟩:=Zdb.1 h;exact Zp0 (Zam (Zam (Jm h1 Zcw) (Jm h2 Zcp)) (Jm h3 Zcl)) (Zei h5)
end Go.Proofs.YtpheiojmcafolaaGreatDoor
