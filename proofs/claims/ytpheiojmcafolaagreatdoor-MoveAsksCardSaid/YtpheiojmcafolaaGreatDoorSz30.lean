/-
 THE WALK of the law MoveMeans.
-/
import Derived.Test.YtpheiojmcafolaaGreatDoorSz29
set_option maxRecDepth 100000
set_option maxHeartbeats 25600000
namespace Go.Proofs.YtpheiojmcafolaaGreatDoor
open Go.RowKit Go.Sort
theorem Zj3 {m:Mv}{u:Ud}(h:Zbt m u=false):FrU m u:=by
 unfold Zbt at h;intro e hc;rw [e,hc] at h;simp at h
theorem Z0k {m:Mv}{e:List Nd}(h:((Vn m e).2==0 && (Vn m e).1)=true):FrL m e:=by
 rw [Bool.and_eq_true,beq_iff_eq] at h;obtain ⟨_,_,h3⟩:=Zx1 h.1 h.2;exact Zli.1 h3
theorem Zro {m:Mv}{es:List En}{q:Rq}(h0:Ym es=0)(hq:Vr q=0)(h:K0 m es q=true):EsF m es/\RqF m q:=by
 unfold K0 at h;rw [Bool.and_eq_true,Bool.and_eq_true,List.all_eq_true,Bool.not_eq_true',Bool.or_eq_false_iff,Bool.or_eq_false_iff] at h;obtain ⟨h1,h2,h3,h4,h5⟩:=h;refine ⟨Z4a h0 λe he=>?_,Z37 hq (Z0k h2) (Zj3 h3) (Zj3 h4) (Zj3 h5)⟩;have h6:=h1 e he;unfold K2 at h6;rw [Bool.and_eq_true] at h6;obtain ⟨g1,g2⟩:=h6;rw [Bool.and_eq_true,List.all_eq_true,Bool.not_eq_true'] at g2;exact ⟨Z0k g1,Zj3 g2.1,λp hp=>Zj3 (by simpa using g2.2 p hp)⟩
variable {m : Mv}
def mvS (m:Mv)(s:Sc):Sc:=⟨s.op,rnS m 2 s.ty,mvU m s.uid⟩
def mvC (m:Mv)(c:Cd):Cd:=⟨c.unless_,mvX m c.expr⟩
def mvO (m:Mv)(p:Po):Po:=⟨p.name,p.forbid,mvS m p.who,mvS m p.act,mvS m p.what,p.conds.map (mvC m)⟩
theorem Zi0 (m:Mv){n:Nd}(h5:¬n.op=5)(h6:¬n.op=6):mvX m [n] = [ren m n]:=by
 unfold mvX;rw [show ([n]:List Nd).length=0+1 from rfl,Zag m false 0 h5 h6];rfl
theorem Ztc (hm:Zq m=0){n:Nd}{a b:List Nd}(h:Ex (.one false) (n :: (a++b)))(h6:(n.op==6)=false)(ha:Ex (.one false) a)(hb:Ex (.one false) b)(hf:FrL m (n :: (a++b))):mvX m (n :: (a++b))=ren m n :: (mvX m a++mvX m b):=by
 have e:n :: (a++b)=n :: [a,b].flatten:=by simp
 rw [e] at h hf ⊢;rw [Ziw hm h (by
  intro p hp;rw [h6];simp at hp;rcases hp with rfl | rfl
  . exact ha
  . exact hb) hf,if_neg (by simpa using h6)]
 simp
theorem Zto (hm:Zq m=0){n:Nd}{a:List Nd}(h:Ex (.one false) (n :: a))(h6:(n.op==6)=false)(ha:Ex (.one false) a)(hf:FrL m (n :: a)):mvX m (n :: a)=ren m n :: mvX m a:=by
 have e:n :: a=n :: [a].flatten:=by simp
 rw [e] at h hf ⊢;rw [Ziw hm h (by
  intro p hp;rw [h6];simp at hp;subst hp;exact ha) hf,if_neg (by simpa using h6)]
 simp
theorem Zmv {k:Int}(h:k=9\/k=11\/k=14\/k=20):ren m (opN k)=opN k:=Zdi (Kn (by rcases h with rfl | rfl | rfl | rfl <;> simp [opN]))
theorem Q2 (v:ByteArray):mvX m [Xz v] = [Xz v]:=by
 rw [Zi0 m (by simp [Xz]) (by simp [Xz]),Zdi (Kn (by simp [Xz]))]
theorem Zmu (u:Ud):mvX m [Zae u] = [Zae (mvU m u)]:=by
 rw [Zi0 m (by simp [Zae]) (by simp [Zae]),Znl m (.inl rfl)];rfl
theorem Zit (hm:Zq m=0){a b:List Nd}(ha:Ex (.one false) a)(hb:Ex (.one false) b)(hf:FrL m (Jo a b)):mvX m (Jo a b)=Jo (mvX m a) (mvX m b):=by
 unfold Jo at hf ⊢;rw [Ztc hm (Zam ha hb) rfl ha hb hf,Zmv (by simp)]
theorem Zj1 (hm:Zq m=0){k:Int}(hk:k=14\/k=20){a b:Nd}(ha:Ex (.one false) [a])(hb:Ex (.one false) [b])(hf:FrL m [opN k,a,b]):mvX m [opN k,a,b]=opN k :: (mvX m [a]++mvX m [b]):=by
 have h6:((opN k).op==6)=false:=by rcases hk with rfl | rfl <;> rfl
 have h7:((opN k).op==7)=false:=by rcases hk with rfl | rfl <;> rfl
 have hp:Zl (opN k)=2:=by rcases hk with rfl | rfl <;> rfl
 have h:=Ztc hm (n:=opN k) (a:=[a]) (b:=[b]) (K7 _ _ _ (Vg (by omega)) hp h7 h6 ha hb) h6 ha hb hf;rw [Zmv (by omega)] at h;exact h
theorem Z0c (hm:Zq m=0){t v:ByteArray}(ht:Zf t.toList=0)(hv:Xb v.toList=true)(hf:FrL m [⟨24,0,t,eB⟩,Xz v]):mvX m [⟨24,0,t,eB⟩,Xz v] = [⟨24,0,rnS m 2 t,eB⟩,Xz v]:=by
 rw [Zto hm (Zw6 ht hv) rfl (Zg4 hv) hf,Q2,Znl m (.inr rfl)]
theorem Zja (hm:Zq m=0){s:Sc}{b:Bool}{v:ByteArray}(h:Vv s b=true)(hv:Zq6 v)(hf:FrL m (Yt s v)):Yt (mvS m s) v=mvX m (Yt s v):=by
 have e:=Zg4 hv.pv;have q:=Zg4 hv.pq;unfold Yt at hf ⊢;show (if s.op=1 then [opN 14,Xz v,Zae (mvU m s.uid)]
  else if s.op=2 then [opN 20,Xz v,Zae (mvU m s.uid)]
  else if s.op=3 then [⟨24,0,rnS m 2 s.ty,eB⟩,Xz v]
  else if s.op=4 then [opN 11,⟨24,0,rnS m 2 s.ty,eB⟩,Xz v,opN 20,Xz v,Zae (mvU m s.uid)]
  else if s.op=5 then [opN 14,Xz v,Xz (qB v)]
  else if s.op=6 then [opN 20,Xz v,Xz (qB v)]
  else [⟨1,1,eB,eB⟩])=_
 by_cases h1:s.op=1
 . rw [if_pos h1] at hf;rw [if_pos h1,if_pos h1];have:Zw s.uid=0:=by simp [Vv,h1,Qz] at h;exact h.1
   rw [Zj1 hm (.inl rfl) e (Zea this) hf,Q2,Zmu];rfl
 rw [if_neg h1] at hf;rw [if_neg h1,if_neg h1];by_cases h2:s.op=2
 . rw [if_pos h2] at hf;rw [if_pos h2,if_pos h2];have:Zw s.uid=0:=by simp [Vv,h2,Qz] at h;exact h.1
   rw [Zj1 hm (.inr rfl) e (Zea this) hf,Q2,Zmu];rfl
 rw [if_neg h2] at hf;rw [if_neg h2,if_neg h2];by_cases h3:s.op=3
 . rw [if_pos h3] at hf;rw [if_pos h3,if_pos h3];have:Zf s.ty.toList=0:=by simp [Vv,h3] at h;exact h.1
   rw [Z0c hm this hv.pv hf]
 rw [if_neg h3] at hf;rw [if_neg h3,if_neg h3];by_cases h4:s.op=4
 . rw [if_pos h4] at hf;rw [if_pos h4,if_pos h4];have h':Zf s.ty.toList=0/\Zw s.uid=0:=by simp [Vv,h4,Qz] at h;exact h
   have ex2:Ex (.one false) [opN 20,Xz v,Zae s.uid]:=K7 _ _ _ (Vg (by simp)) rfl rfl rfl e (Zea h'.2);have h5:=Zit hm (a:=[⟨24,0,s.ty,eB⟩,Xz v]) (b:=[opN 20,Xz v,Zae s.uid]) (Zw6 h'.1 hv.pv) ex2 hf;rw [Z0c hm h'.1 hv.pv (hf.sub (by intro x hx;simp at hx ⊢;rcases hx with rfl | rfl <;> simp)),Zj1 hm (.inr rfl) e (Zea h'.2) (hf.sub (by intro x hx;simp at hx ⊢;rcases hx with rfl | rfl | rfl <;> simp)),Q2,Zmu] at h5;exact h5.symm
 rw [if_neg h4] at hf;rw [if_neg h4,if_neg h4];by_cases h5:s.op=5
 . rw [if_pos h5] at hf;rw [if_pos h5,Zj1 hm (.inl rfl) e q hf,Q2,Q2];rfl
 rw [if_neg h5] at hf;rw [if_neg h5];by_cases h6:s.op=6
 . rw [if_pos h6] at hf;rw [if_pos h6,Zj1 hm (.inr rfl) e q hf,Q2,Q2];rfl
 rw [if_neg h6,Zi0 m (by simp) (by simp),Zdi (Kn (by simp))]
theorem Z3q (hm:Zq m=0){c:Cd}(h:Xe c.expr=0)(hf:FrL m (Uk c)):Uk (mvC m c)=mvX m (Uk c):=by
 have hx:=Zh3 h;have ht:Zo c.expr=0:=by
  unfold Xe at h;split at h
  . rename_i hn;exact absurd h hn
  . rename_i hn;simpa using hn
 have hx2:=((Xd _).1 ht).2;unfold Uk at hx hf ⊢;show (if c.unless_=true then opN 9 :: mvX m c.expr else mvX m c.expr)=_;split
 . rename_i hu;rw [if_pos hu] at hx hf;rw [Zto hm hx rfl hx2 hf,Zmv (by simp)]
 . rfl
theorem Zo8 (hm:Zq m=0):∀{l:List Cd} {e0:List Nd},Ex (.one false) e0->(∀c∈l,Xe c.expr=0)->FrL m (Zdz e0 l)->Zdz (mvX m e0) (l.map (mvC m))=mvX m (Zdz e0 l)
 | [],_,_,_,_=>rfl
 | c :: r,e0,h0,h,hf=>by
  have hc:=h c (List.mem_cons_self ..);have hr:∀c∈r,Xe c.expr=0:=λc hc=>h c (List.mem_cons_of_mem _ hc);have hx:=Zam h0 (Zh3 hc);have sub:∀(l:List Cd) (e:List Nd),∀x∈e,x∈Zdz e l:=by
   intro l;induction l with
   | nil=>exact λe x hx=>hx
   | cons d l ih=>exact λe x hx=>ih _ x (by simp [Jo,hx])
  have hf':FrL m (Zdz (Jo e0 (Uk c)) r):=hf;have hfa:FrL m (Jo e0 (Uk c)):=hf'.sub (sub r _);have:=Zo8 hm hx hr hf';rw [Zit hm h0 (Zh3 hc) hfa,<-Z3q hm hc (hfa.sub λx hx=>by simp [Jo,hx])] at this;exact this
theorem Z1o (hm:Zq m=0){p:Po}(h:Ys p=0)(hf:FrL m (Vo p)):Vo (mvO m p)=mvX m (Vo p):=by
 obtain ⟨_,h1,h2,h3,_,h5⟩:=Zdb.1 h;have e1:=Jm h1 Zcw;have e2:=Jm h2 Zcp;have e3:=Jm h3 Zcl;have sub:∀(l:List Cd) (e:List Nd),∀x∈e,x∈Zdz e l:=by
  intro l;induction l with
  | nil=>exact λe x hx=>hx
  | cons d l ih=>exact λe x hx=>ih _ x (by simp [Jo,hx])
 have f0:FrL m (V1 p):=hf.sub (sub p.conds _);have f12:FrL m (Jo (Yt p.who prB) (Yt p.act acB)):=f0.sub λx hx=>by unfold V1;unfold Jo at hx ⊢;simp at hx ⊢;rcases hx with rfl | hx | hx <;> simp [*]
 have h6:mvX m (V1 p)=V1 (mvO m p):=by
  unfold V1;rw [Zit hm (Zam e1 e2) e3 f0,Zit hm e1 e2 f12,<-Zja hm h1 Zcw (f12.sub λx hx=>by simp [Jo,hx]),<-Zja hm h2 Zcp (f12.sub λx hx=>by simp [Jo,hx]),<-Zja hm h3 Zcl (f0.sub λx hx=>by simp [V1,Jo,hx])];rfl
 show Zdz (V1 (mvO m p)) (p.conds.map (mvC m))=mvX m (Zdz (V1 p) p.conds);rw [<-h6];exact Zo8 hm (Zam (Zam e1 e2) e3) (Zei h5) hf
theorem Zhy (hm:Zq m=0){s:ByteArray}(h:emp s=true)(k:Int):rnS m k s=s:=by
 unfold rnS;rw [if_neg];rintro ⟨_,e⟩;unfold emp at h;have h1:=(Zxe hm).2.1;rw [<-e,of_decide_eq_true h] at h1;simp [Zf] at h1
theorem Zfy (hm:Zq m=0){u:Ud}(h:V2 u=true):mvU m u=u:=by
 unfold V2 at h;rw [Bool.and_eq_true] at h;show (⟨rnS m 2 u.ty,u.id⟩:Ud)=u;rw [Zhy hm h.1]
theorem Zt4 (hm:Zq m=0){u:Ud}(h:Qz u=true):Qz (mvU m u)=true:=by
 unfold Qz at h ⊢;simpa using Zg6 hm (by simpa using h)
theorem Zmq (hm:Zq m=0){s:Sc}{b:Bool}(h:Vv s b=true):Vv (mvS m s) b=true:=by
 unfold Vv at h ⊢;show (if s.op=0 then V2 (mvU m s.uid) && emp (rnS m 2 s.ty)
  else if s.op=5\/s.op=6 then b && (V2 (mvU m s.uid) && emp (rnS m 2 s.ty))
  else if s.op=1\/s.op=2 then Qz (mvU m s.uid) && emp (rnS m 2 s.ty)
  else if s.op=3 then Zf (rnS m 2 s.ty).toList==0 && V2 (mvU m s.uid)
  else if s.op=4 then Zf (rnS m 2 s.ty).toList==0 && Qz (mvU m s.uid)
  else false)=true
 split at h
 . rename_i h0;rw [if_pos h0];rw [Bool.and_eq_true] at h;rw [Zfy hm h.1,Zhy hm h.2,h.1,h.2];rfl
 . rename_i h0;rw [if_neg h0];split at h
   . rename_i h1;rw [if_pos h1];rw [Bool.and_eq_true,Bool.and_eq_true] at h;rw [Zfy hm h.2.1,Zhy hm h.2.2,h.1,h.2.1,h.2.2];rfl
   . rename_i h1;rw [if_neg h1];split at h
     . rename_i h2;rw [if_pos h2];rw [Bool.and_eq_true] at h;rw [Zt4 hm h.1,Zhy hm h.2,h.2];rfl
     . rename_i h2;rw [if_neg h2];split at h
       . rename_i h3;rw [if_pos h3];rw [Bool.and_eq_true] at h;rw [Zfy hm h.2,h.2,Zel hm (by simpa using h.1) 2];rfl
       . rename_i h3;rw [if_neg h3];split at h
         . rename_i h4;rw [if_pos h4];rw [Bool.and_eq_true] at h;rw [Zt4 hm h.2,Zel hm (by simpa using h.1) 2];rfl
         . cases h
theorem Zyo (hm:Zq m=0){e:List Nd}(h:Xe e=0)(hf:FrL m e):Xe (mvX m e)=0:=by
 unfold Xe at h ⊢;split at h
 . rename_i h1;exact absurd h h1
 . rename_i h1;have ht:=Classical.not_not.1 h1;split at h
   . cases h
   . rename_i h2;have hx:=Zal hm ((Xd e).1 ht).2 hf;rw [if_neg (by simpa using Zbi hm ht hf),if_neg];intro hc;refine h2 ?_;rw [List.any_eq_true] at hc ⊢;obtain ⟨x,h3,h4⟩:=hc;have h8:x.op=8:=by
      unfold Zer at h4;rw [Bool.and_eq_true] at h4;simpa using h4.1
     exact ⟨x,Zcu m false _ e _ (hx.1 _ (nL _)) x h3 (.inr h8),h4⟩
theorem Zlb (hm:Zq m=0):∀{l:List Cd},V8 l=0->(∀c∈l,FrL m c.expr)->V8 (l.map (mvC m))=0
 | [],_,_=>rfl
 | c :: r,h,hf=>by
  rw [V8] at h;rw [List.map_cons,V8];split at h
  . rename_i h1;exact absurd h h1
  . rename_i h1;show (if Xe (mvX m c.expr)≠0 then Xe (mvX m c.expr) else V8 (r.map (mvC m)))=0;rw [if_neg (by simpa using Zyo hm (Classical.not_not.1 h1) (hf c (List.mem_cons_self ..)))];exact Zlb hm h λd hd=>hf d (List.mem_cons_of_mem _ hd)
theorem Zlc:∀(l:List Cd) (e:List Nd),∀x∈e,x∈Zdz e l
 | [],_,_,hx=>hx
 | d :: l,_,_,hx=>Zlc l _ _ (by simp [Jo,hx])
theorem Zik:∀(l:List Cd) (e:List Nd),∀c∈l,∀x∈c.expr,x∈Zdz e l
 | [],_,_,hc,_,_=>by cases hc
 | d :: l,e,c,hc,x,hx=>by
  rcases List.mem_cons.1 hc with rfl | hc
  . refine Zlc l _ x ?_;simp only [Jo,Uk,List.mem_cons,List.mem_append];split <;> simp [hx]
  . exact Zik l _ c hc x hx
theorem FrL.cond {p:Po}(hf:FrL m (Vo p)):∀c∈p.conds,FrL m c.expr:=λc hc=>hf.sub λx hx=>Zik p.conds (V1 p) c hc x hx
theorem Zfx (hm:Zq m=0){p:Po}(h:Ys p=0)(hf:FrL m (Vo p)):Ys (mvO m p)=0:=by
 obtain ⟨h0,h1,h2,h3,h4,h5⟩:=Zdb.1 h;exact Zdb.2 ⟨h0,Zmq hm h1,Zmq hm h2,Zmq hm h3,by show (p.conds.map (mvC m)).length<=4;rw [List.length_map];exact h4,Zlb hm h5 hf.cond⟩
theorem Zpz (hm:Zq m=0){p:Po}(h:(Yv p).2=0)(hp:Ys p=0)(hf:FrL m (Vo p)):Yv (mvO m p)=(mvX m (Yv p).1,0):=by
 unfold Yv at h ⊢;rw [if_neg (by simp [hp])] at h;split at h
 . cases h
 . rename_i hl;have hx:=Zal hm (Z16 hp) hf;rw [if_neg (by simp [Zfx hm hp hf]),Z1o hm hp hf,if_neg (by rw [hx.2.2.2];exact hl),if_neg (by simp [hp]),if_neg hl]
section
variable {α β : Type} {nm : α -> List UInt8} {fb : α -> Bool} {pe1 pe2 vt : α -> Int} {nm' : β -> List UInt8} {fb' : β -> Bool} {pe1' pe2' vt' : β -> Int}
def Alk (nm:α->List UInt8)(fb:α->Bool)(vt:α->Int)(nm':β->List UInt8)(fb':β->Bool)(vt':β->Int)(ps:List α)(qs:List β):Prop:=
 qs.map (λq=>(nm' q,fb' q,vt' q))=ps.map (λp=>(nm p,fb p,vt p))
theorem Zjb {ps:List α}{qs:List β}(h:Alk nm fb vt nm' fb' vt' ps qs)(g:Int->Bool->Bool):(qs.filter λq=>g (vt' q) (fb' q)).map nm'=(ps.filter λp=>g (vt p) (fb p)).map nm:=by
 unfold Alk at h;induction ps generalizing qs with
 | nil=>rw [List.map_nil,List.map_eq_nil_iff] at h;subst h;rfl
 | cons p r ih=>
  cases qs with
  | nil=>simp at h
  | cons q s=>
   rw [List.map_cons,List.map_cons] at h;injection h with h1 h2
   injection h1 with h3 h4
   injection h4 with h5 h6
   rw [List.filter_cons,List.filter_cons,h5,h6];split
   . rw [List.map_cons,List.map_cons,h3,ih h2]
   . exact ih h2
theorem Zgk {ps:List α}{qs:List β}(h:Alk nm fb vt nm' fb' vt' ps qs):Yz nm' fb' vt' qs=Yz nm fb vt ps:=Zjb h λv f=>v==1 && f
theorem Zgg {ps:List α}{qs:List β}(h:Alk nm fb vt nm' fb' vt' ps qs):Xg nm' fb' vt' qs=Xg nm fb vt ps:=Zjb h λv f=>v==1 && !f
theorem Zr1 {ps:List α}{qs:List β}(h:Alk nm fb vt nm' fb' vt' ps qs):Up nm' vt' qs=Up nm vt ps:=Zjb h λv _=>v == -1
theorem Z2q {ps:List α}{qs:List β}(h:Alk nm fb vt nm' fb' vt' ps qs):byP nm' fb' vt' qs=byP nm fb vt ps:=by unfold byP;rw [Zgk h,Zgg h]
theorem Zrq {ps:List α}{qs:List β}(h:Alk nm fb vt nm' fb' vt' ps qs):Qv nm' fb' vt' qs=Qv nm fb vt ps:=by unfold Qv;rw [Zgk h,Zgg h]
end
theorem Zj7 (m:Mv)(s:Sc)(w:World)(T:ByteArray)(hT:rnS m 2 s.ty=T)(a b:Bool)(ha:(m.what==2)=a)(hb:a=true->(s.ty.toList==m.fr.toList)=b)(hc:T=if a && b then m.to_ else s.ty) :
 Calls Tryz.prog 79 #[.agg #[.int .i64 m.what,.string m.fr,.string m.to_],.agg #[.int .i64 s.op,.string s.ty,.string s.uid.ty,.string s.uid.id]] w λr w'=>r=.returned (.agg #[.int .i64 (mvS m s).op,.string (mvS m s).ty,.string (mvS m s).uid.ty,.string (mvS m s).uid.id])/\RowKit.Below w.heap.size w w':=by
 have HU:=Ld (λW=>Zcc m s.uid W);have HT:Hid (mvS m s=⟨s.op,T,mvU m s.uid⟩):=by show _=_;unfold mvS;rw [hT]
 rw [HT.out];dsimp only;generalize mvU m s.uid=u at HU ⊢;obtain ⟨w0,hw0⟩:∃w0,w0=((w.alloc (.cells #[.int .i64 m.what,.string m.fr,.string m.to_] 56)).alloc (.cells #[.int .i64 s.op,.string s.ty,.string s.uid.ty,.string s.uid.id] 44)).alloc (.cells #[.int .i64 0,.string ⟨#[]⟩,.string ⟨#[]⟩,.string ⟨#[]⟩] 44):=⟨_,rfl⟩;have hb0:RowKit.Below w.heap.size w w0:=by rw [hw0];(repeat (first | assumption | exact bR | apply bD | apply Za | refine bA ?_ _))
 have B0:Hid (Blk w0 w.heap.size 56 #[.int .i64 m.what,.string m.fr,.string m.to_]):=by
  show Blk _ _ _ _;rw [hw0];exact ((Blk.new w 56 #[.int .i64 m.what,.string m.fr,.string m.to_]).alloc _).alloc _
 have D0:Hid (Blk w0 (w.heap.size+1) 44 #[.int .i64 s.op,.string s.ty,.string s.uid.ty,.string s.uid.id]):=by
  show Blk _ _ _ _;rw [hw0];have:=(Blk.new (w.alloc (.cells #[.int .i64 m.what,.string m.fr,.string m.to_] 56)) 44 #[.int .i64 s.op,.string s.ty,.string s.uid.ty,.string s.uid.id]);rw [World.size_alloc] at this;exact this.alloc _
 have R0:Hid (Blk w0 (w.heap.size+1+1) 44 #[.int .i64 0,.string ⟨#[]⟩,.string ⟨#[]⟩,.string ⟨#[]⟩]):=by
  show Blk _ _ _ _;rw [hw0];have:=(Blk.new ((w.alloc (.cells #[.int .i64 m.what,.string m.fr,.string m.to_] 56)).alloc (.cells #[.int .i64 s.op,.string s.ty,.string s.uid.ty,.string s.uid.id] 44)) 44 #[.int .i64 0,.string ⟨#[]⟩,.string ⟨#[]⟩,.string ⟨#[]⟩]);rw [World.size_alloc,World.size_alloc] at this;exact this
 have HB0:=Ld hb0;have HW0:=Ld hw0;have HC:=Ld hc;clear hb0 hw0 hT hc HT;go_enter Tryz.func79,Tryz.ntmps79
 go_wp2_with fail
 rw [<-HW0.out];refine (HU.out _).mono ?_;rintro r w1 ⟨rfl,hb1⟩;have HB1:=Ld (HB0.out.trans (hb1.mono HB0.out.size));have B1:=Ld (B0.out.below hb1 B0.out.lt);have D1:=Ld (D0.out.below hb1 D0.out.lt);have R1:=Ld (R0.out.below hb1 R0.out.lt);clear hb1 B0 D0 R0 HB0 HW0 HU;have mc:=B1.out.cell;have ml:=B1.out.lt;have sc:=D1.out.cell;have sf:=D1.out.frozen;have sl:=D1.out.lt;have rc:=R1.out.cell;have rf:=R1.out.frozen;have rl:=R1.out.lt;cases a with
 | false=>
  obtain rfl:T=s.ty:=by rw [HC.out];rfl
  clear hb;go_wp2_with fail
  refine bodyPost_ret (v:=.agg #[.int .i64 s.op,.string s.ty,.string u.ty,.string u.id]) (by simp [results,Tryz.results79,go_sem,rc]) rfl ⟨rfl,?_⟩;have hfin:=HB1.out;repeat (refine RowKit.Below.setCell ?_ (by first | (simp;done) | (simp;omega)) _)
  exact hfin
 | true=>
  have hb:=hb rfl;cases b with
  | false=>
   obtain rfl:T=s.ty:=(by rw [HC.out];rfl);go_wp2_with fail
   refine bodyPost_ret (v:=.agg #[.int .i64 s.op,.string s.ty,.string u.ty,.string u.id]) (by simp [results,Tryz.results79,go_sem,rc]) rfl ⟨rfl,?_⟩;have hfin:=HB1.out;repeat (refine RowKit.Below.setCell ?_ (by first | (simp;done) | (simp;omega)) _)
   exact hfin
  | true=>
   obtain rfl:T=m.to_:=(by rw [HC.out];rfl);go_wp2_with fail
   refine bodyPost_ret (v:=.agg #[.int .i64 s.op,.string m.to_,.string u.ty,.string u.id]) (by simp [results,Tryz.results79,go_sem,rc]) rfl ⟨rfl,?_⟩;have hfin:=HB1.out;repeat (refine RowKit.Below.setCell ?_ (by first | (simp;done) | (simp;omega)) _)
   exact hfin
theorem Zdm (m:Mv)(s:Sc)(w:World) :
 Calls Tryz.prog 79 #[.agg #[.int .i64 m.what,.string m.fr,.string m.to_],.agg #[.int .i64 s.op,.string s.ty,.string s.uid.ty,.string s.uid.id]] w λr w'=>r=.returned (.agg #[.int .i64 (mvS m s).op,.string (mvS m s).ty,.string (mvS m s).uid.ty,.string (mvS m s).uid.id])/\RowKit.Below w.heap.size w w':=by
 refine Zj7 m s w _ rfl (m.what==2) (s.ty.toList==m.fr.toList) rfl (λ_=>rfl) ?_;unfold rnS;by_cases h1:m.what=2 <;> by_cases h2:s.ty.toList=m.fr.toList <;> simp [h1,h2]
structure CdF (F:Nat->Prop)(w:World)(B:Nat)(A:Option Addr)(cs:List CdM):Prop where
 row:cs≠[]->∃b o,A=some ⟨b,o,none⟩/\b < B/\¬F b/\∀i x,cs[i]? = some x->AtG CdM.cells w b (o+i*2) x
 off:∀x∈cs,Xu F w B x.A x.e
 le:∀x∈cs,x.e.length<=x.c/\x.c<=9223372036854775807/\Y0 x.e
theorem CdF.cds {F:Nat->Prop}{w:World}{B:Nat}{A:Option Addr}{cs:List CdM}(h:CdF F w B A cs):Zbe w B A cs:=
 ⟨λhne=>by obtain ⟨b,o,e,h1,_,h3⟩:=h.row hne;exact ⟨b,o,e,h1,h3⟩,λx hx=>⟨(h.off x hx).sl,(h.le x hx).1,(h.le x hx).2.1,(h.le x hx).2.2⟩⟩
theorem Xu.mono {F F':Nat->Prop}{w:World}{B:Nat}{A:Option Addr}{e:List Nd}(h:Xu F w B A e)(hF:∀b,b < B->F' b->F b):Xu F' w B A e:=λhne=>by
 obtain ⟨b,o,e1,h1,h2,h3⟩:=h hne;exact ⟨b,o,e1,h1,λhc=>h2 (hF b h1 hc),h3⟩
theorem CdF.mono {F F':Nat->Prop}{w:World}{B:Nat}{A:Option Addr}{cs:List CdM}(h:CdF F w B A cs)(hF:∀b,b < B->F' b->F b):CdF F' w B A cs:=
 ⟨λhne=>by obtain ⟨b,o,e,h1,h2,h3⟩:=h.row hne;exact ⟨b,o,e,h1,λhc=>h2 (hF b h1 hc),h3⟩,λx hx=>(h.off x hx).mono hF,h.le⟩
theorem CdF.keep {F:Nat->Prop}{w w':World}{B B':Nat}{A:Option Addr}{cs:List CdM}(h:CdF F w B A cs)(hk:∀p:Addr,p.block < B->¬F p.block->w'.cell? p=w.cell? p)(hB:B<=B'):CdF F w' B' A cs:=
 ⟨λhne=>by
  obtain ⟨b,o,e,h1,h2,h3⟩:=h.row hne;exact ⟨b,o,e,by omega,h2,λi x hx j u hu=>(hk _ h1 h2).trans (h3 i x hx j u hu)⟩,λx hx=>(h.off x hx).keep hk hB,h.le⟩
structure Zah (F:Nat->Prop)(w:World)(B:Nat)(x:PoM):Prop where
 same:x.p.conds=x.cs.map CdM.cd
 le:x.cs.length<=x.c
 max:x.c<=9223372036854775807
 z:PoZ x.p
 off:CdF F w B x.A x.cs
 ni:∀y∈x.cs,NdI y.e
theorem Zah.ok {F:Nat->Prop}{w:World}{B:Nat}{x:PoM}(h:Zah F w B x):Zbb w B x:=⟨h.same,h.le,h.max,h.z,h.off.cds,h.ni⟩
theorem Zah.mono {F F':Nat->Prop}{w:World}{B:Nat}{x:PoM}(h:Zah F w B x)(hF:∀b,b < B->F' b->F b):Zah F' w B x:=⟨h.same,h.le,h.max,h.z,h.off.mono hF,h.ni⟩
theorem Zah.keep {F:Nat->Prop}{w w':World}{B B':Nat}{x:PoM}(h:Zah F w B x)(hk:∀p:Addr,p.block < B->¬F p.block->w'.cell? p=w.cell? p)(hB:B<=B'):Zah F w' B' x:=⟨h.same,h.le,h.max,h.z,h.off.keep hk hB,h.ni⟩
def Zhc (v:Value)(b:Nat):Prop:=v.ownBlock=some b
structure Zby (w5:World)(ms:List PoM)(v:Value)(w:World):Prop where
 own:w.ownsRow w5.heap.size 47 15 v ms.length (Zr PoM.cells ms)
 each:∀z∈ms,Zah (Zhc v) w w.heap.size z
 below:RowKit.Below w5.heap.size w5 w
theorem Zby.nil (w5:World):Zby w5 [] (.slice none 0 0) w5:=⟨World.ownsRow_nil _ _ _ _,λz hz=>by simp at hz,RowKit.Below.refl _ _⟩
theorem Zby.later {w5 w w':World}{ms:List PoM}{v:Value}(h:Zby w5 ms v w)(hb:RowKit.Below w.heap.size w w'):Zby w5 ms v w':=
 ⟨Vq h.own hb,λz hz=>(h.each z hz).keep (λ_ hp _=>hb.cell hp) hb.size,h.below.trans (hb.mono h.below.size)⟩
theorem Zby.more {w5 w w':World}{ms:List PoM}{v v':Value}{y:PoM}(h:Zby w5 ms v w)(hy:Zah (Zhc v) w w.heap.size y)(ho:w'.ownsRow w5.heap.size 47 15 v' (ms.length+1) (Zr PoM.cells ms++PoM.cells y))
 (hg:w.grownBy w' v.ownBlock) (hl:v'.ownBlock=v.ownBlock\/v'.ownBlock=some w.heap.size):Zby w5 (ms ++ [y]) v' w':=by
 refine ⟨by rw [List.length_append,Y6,J9];exact ho,λz hz=>?_,h.below.grown hg h.below.size (λk hk=>(Yf h.own hk).1)⟩;have hz':Zah (Zhc v) w w.heap.size z:=by
  rcases List.mem_append.1 hz with hz | hz
  . exact h.each z hz
  . rw [List.mem_singleton] at hz;subst hz;exact hy
 have h2:Zah (Zhc v') w w.heap.size z:=hz'.mono λb hb hc=>by
  rcases hl with hl | hl
  . unfold Zhc at hc ⊢;rw [<-hl];exact hc
  . unfold Zhc at hc;rw [hl] at hc;injection hc with hc;omega
 have hk:∀p:Addr,p.block < w.heap.size->¬Zhc v p.block->w'.cell? p=w.cell? p:=λp hp hn=>World.cell?_of_block (hg.block p.block hp (λe=>hn e.symm));have h3:=hz'.keep hk hg.size;exact ⟨h3.same,h3.le,h3.max,h3.z,⟨λhne=>by
  obtain ⟨b,o,e,b1,b2,b3⟩:=h2.off.row hne;obtain ⟨b',o',e',c1,c2,c3⟩:=h3.off.row hne;rw [e] at e';injection e' with e'
  injection e' with e1 e2
  subst e1 e2;exact ⟨b,o,e,c1,b2,c3⟩,λx hx hne=>by
  obtain ⟨b,o,e,b1,b2,b3⟩:=h2.off.off x hx hne;obtain ⟨b',o',e',c1,c2,c3⟩:=h3.off.off x hx hne;rw [e] at e';injection e' with e'
  injection e' with e1 e2
  subst e1 e2;exact ⟨b,o,e,c1,b2,c3⟩,h3.off.le⟩,h3.ni⟩
theorem Zby.pos {w5 w:World}{ms:List PoM}{A:Option Addr}{n c:Nat}(h:Zby w5 ms (.slice A n c) w):Q6 w A ms:=by
 obtain ⟨-,As,cs,e1,-,-,hsl⟩:=Y1 Zsf h.own;injection e1 with e1
 subst e1;exact ⟨hsl,λz hz=>(h.each z hz).ok⟩
end Go.Proofs.YtpheiojmcafolaaGreatDoor
namespace Go.Proofs.YtpheiojmcafolaaGreatDoor
inductive Tr where
 | nil
 | read (i:Nat) (t:Tr)
 | one (i:Nat) (t:Tr)
 | two (i j:Nat) (t u:Tr)
inductive TrO where
 | nil
 | read (o:Oper) (t:TrO)
 | one (o:Oper) (t:TrO)
 | two (o p:Oper) (t u:TrO)
def Tr.len:Tr->Nat
 | .nil=>0
 | .read _ t=>t.len+1
 | .one _ t=>t.len+1
 | .two _ _ t _=>t.len+1
def Tr.reads:List Nat->Tr->Tr
 | [],t=>t
 | i :: r,t=>.read i (Tr.reads r t)
def Zez (l:List Oper)(i:Nat)(f:Oper->TrO):TrO:=match l[i]? with
 | some o=>f o
 | none=>.nil
def Tr.at_ (l:List Oper):Tr->TrO
 | .nil=>.nil
 | .read i t=>Zez l i λo=>.read o (t.at_ l)
 | .one i t=>Zez l i λo=>.one o (t.at_ l)
 | .two i j t u=>Zez l i λo=>Zez l j λp=>.two o p (t.at_ l) (u.at_ l)
def Tr.ok (ops:Array Oper):Tr->Array Bool->Bool
 | .nil,d=>(Region.ready .any ops d).isEmpty
 | .read i t,d=>decide (i < ops.size) && (Region.free .any ops d i && (Region.ready .any ops d).contains i) && t.ok ops (d.setIfInBounds i true)
 | .one i t,d=>decide (i < ops.size) && (Region.ready .any ops d == [i]) && t.ok ops (d.setIfInBounds i true)
 | .two i j t u,d=>(decide (i < ops.size) && decide (j < ops.size)) && (Region.ready .any ops d == [i,j]) && (t.len==u.len) && (t.ok ops (d.setIfInBounds i true) && u.ok ops (d.setIfInBounds j true))
section
variable {P : Program} {ops : Array Oper} {Q : Exit -> Act -> World -> Prop} {S : World -> Prop}
def Ziu (P:Program)(ops:Array Oper)(Q:Exit->Act->World->Prop)(S:World->Prop):TrO->Act->World->Prop
 | .nil,a,w=>Q .normal a w
 | .read o t,a,w=>∃v,YieldsIf P ops S o v a/\Ziu P ops Q S t (a.put o.dst v) w
 | .one o t,a,w=>∀K:Act->World->Prop,(∀a w,S w->Ziu P ops Q S t a w->K a w)->if Region.wanted o (yielded ops a.tmps)=true then Oper.wp P o a w K Q else K (a.put o.dst undef) w
 | .two o p t u,a,w=>(∀K:Act->World->Prop,(∀a w,S w->Ziu P ops Q S t a w->K a w)->if Region.wanted o (yielded ops a.tmps)=true then Oper.wp P o a w K Q else K (a.put o.dst undef) w) /\
  ∀K:Act->World->Prop,(∀a w,S w->Ziu P ops Q S u a w->K a w)->if Region.wanted p (yielded ops a.tmps)=true then Oper.wp P p a w K Q else K (a.put p.dst undef) w
theorem Q9 {l:List Oper}(hsel:Region.noSelect l.toArray=true)(hQ:∀c (d:Tmp) v a w,Q (.panic c) (Act.put a (some d) v) w->Q (.panic c) a w) :
 ∀(t:Tr) (d:Array Bool) (a:Act) (w:World),t.ok l.toArray d=true->S w->Ziu P l.toArray Q S (t.at_ l) a w->wpAnyH P .any l.toArray Q S t.len d a w
 | .nil,d,a,w,hok,_,h=>⟨by simpa [Tr.ok] using hok,h⟩
 | .read i t,d,a,w,hok,hS,h=>by
  simp only [Tr.ok,Bool.and_eq_true,decide_eq_true_eq] at hok;obtain ⟨⟨h1,h2,h3⟩,h4⟩:=hok;have hi:l[i]? = some l[i]:=gE (by simpa using h1);have hi':l.toArray[i]? = some l[i]:=by simp [hi]
  rw [Tr.at_,Zez,hi] at h;obtain ⟨v,hy,hr⟩:=h;exact wpAnyH_take hi' hsel h2 h3 (λc a w q=>by
   cases hd:l[i].dst with
   | none=>rw [hd] at q;exact q
   | some d=>rw [hd] at q;exact hQ c _ _ a w q) hy hS (Q9 hsel hQ t _ _ w h4 hS hr)
 | .one i t,d,a,w,hok,hS,h=>by
  simp only [Tr.ok,Bool.and_eq_true,decide_eq_true_eq,beq_iff_eq] at hok;obtain ⟨⟨h1,h2⟩,h4⟩:=hok;have hi:l[i]? = some l[i]:=gE (by simpa using h1);have hi':l.toArray[i]? = some l[i]:=by simp [hi]
  rw [Tr.at_,Zez,hi] at h;exact wpAnyH_ready h2 (by simp) (AllReadyH.cons hi' (λK' hK=>h K' (λa' w' hS' hr=>hK.out a' w' hS' (λ_=>Q9 hsel hQ t _ a' w' h4 hS' hr))) AllReadyH.nil)
 | .two i j t u,d,a,w,hok,hS,h=>by
  simp only [Tr.ok,Bool.and_eq_true,decide_eq_true_eq,beq_iff_eq] at hok;obtain ⟨⟨⟨⟨h1,h1'⟩,h2⟩,h3⟩,h4,h5⟩:=hok;have hi:l[i]? = some l[i]:=gE (by simpa using h1);have hi':l.toArray[i]? = some l[i]:=by simp [hi]
  have hj:l[j]? = some l[j]:=gE (by simpa using h1');have hj':l.toArray[j]? = some l[j]:=by simp [hj]
  rw [Tr.at_,Zez,hi] at h;dsimp only at h;rw [Zez,hj] at h;exact wpAnyH_ready h2 (by simp) (AllReadyH.cons hi' (λK' hK=>h.1 K' (λa' w' hS' hr=>hK.out a' w' hS' (λ_=>Q9 hsel hQ t _ a' w' h4 hS' hr)))
   (AllReadyH.cons hj' (λK' hK=>h.2 K' (λa' w' hS' hr=>hK.out a' w' hS' (λ_=>h3 ▸ Q9 hsel hQ u _ a' w' h5 hS' hr))) AllReadyH.nil))
def Z3z (ops:Array Oper)(t:Tr):Bool:=Region.noSelect ops && (t.len==ops.size) && t.ok ops (Array.replicate ops.size false)
theorem Zb2 {l:List Oper}(t:Tr){id:Nat}{a:Act}{w:World}(hm:P.follows .mixedOrders=true)(hok:Z3z l.toArray t=true)
 (hQ:∀c (d:Tmp) v a w,Q (.panic c) (Act.put a (some d) v) w->Q (.panic c) a w) (hS:S w.drew) (h:Ziu P l.toArray Q S (t.at_ l) a w.drew):(Code.region id l.toArray true).wp P Q a w:=
 wp_region_held_drew (S:=S) hm hS (λ_=>by
  unfold Z3z at hok;simp only [Bool.and_eq_true,beq_iff_eq] at hok;have h5:=Q9 (P:=P) (S:=S) hok.1.1 hQ t (Array.replicate l.toArray.size false) a w.drew hok.2 hS h;rw [hok.1.2] at h5;exact h5)
theorem Zha {a:Act}{w:World}(h:Q .normal a w):Ziu P ops Q S .nil a w:=h
theorem Kl {o:Oper}{v:Value}{t:TrO}{a:Act}{w:World}(hw:Region.wanted o (yielded ops a.tmps)=true)
 (hy:∀w,S w->(execOp a.eval o).run P w=.ok (.value v) w) (h:Ziu P ops Q S t (a.put o.dst v) w):Ziu P ops Q S (.read o t) a w:=⟨v,.inl ⟨hw,hy⟩,h⟩
theorem V3 {o:Oper}{t:TrO}{a:Act}{w:World}
 (h:∀K:Act->World->Prop,(∀a w,S w->Ziu P ops Q S t a w->K a w)->if Region.wanted o (yielded ops a.tmps)=true then Oper.wp P o a w K Q else K (a.put o.dst undef) w):Ziu P ops Q S (.one o t) a w:=h
theorem Znp {o p:Oper}{t u:TrO}{a:Act}{w:World}
 (h:∀K:Act->World->Prop,(∀a w,S w->Ziu P ops Q S t a w->K a w)->if Region.wanted o (yielded ops a.tmps)=true then Oper.wp P o a w K Q else K (a.put o.dst undef) w)
 (k:∀K:Act->World->Prop,(∀a w,S w->Ziu P ops Q S u a w->K a w)->if Region.wanted p (yielded ops a.tmps)=true then Oper.wp P p a w K Q else K (a.put p.dst undef) w):Ziu P ops Q S (.two o p t u) a w:=⟨h,k⟩
end
end Go.Proofs.YtpheiojmcafolaaGreatDoor
