/-
 THE WALKS: pol.Scoped.
-/
import Derived.Test.YtpheiojmcafolaaGreatDoorSz17
set_option maxRecDepth 100000
set_option maxHeartbeats 25600000
namespace Go.Proofs.YtpheiojmcafolaaGreatDoor
open Go.RowKit Go.Sort
theorem Z3v {W:World}{T:TypeId}{ps:List NsM}{cs:Array Value}(hcs:cs.toList=Zr NsM.cells ps)(h:∀p∈ps,Yq W W.heap.size p):X8 (W.alloc (.cells cs T)) (some ⟨W.heap.size,0,none⟩) ps:=
 ⟨by rw [World.size_alloc];exact Zs3 Zbv W T ps cs hcs,λx hx=>(h x hx).later ((Below.refl _ _).alloc (nL _) _)⟩
theorem Zzy {W:World}{b:Nat}{T:TypeId}{x:Nd}(h:Blk W b T #[.int .i64 x.op,.int .i64 x.n,.string x.s,.string x.t]):Ye W W.heap.size (some ⟨b,0,none⟩) [x]:=λ_=>
 ⟨b,0,rfl,h.lt,λi y hy=>by
  cases i with
  | succ i=>simp at hy
  | zero=>
   simp at hy;subst hy;exact ⟨h.cell 0,h.cell 1,h.cell 2,h.cell 3⟩⟩
theorem Zjy {W:World}{b:Nat}{T:TypeId}(x:Nd)(h:Blk W b T #[.int .i64 x.op,.int .i64 x.n,.string x.s,.string x.t]):Yq W W.heap.size ⟨some ⟨b,0,none⟩,1,[x]⟩:=
 ⟨Zzy h,nL _,by show 1<=9223372036854775807;decide⟩
structure ScI (w:World)(k:Int)(s:Sc)(v:ByteArray)(W:World):Prop where
 bx:Blk W w.heap.size 44 #[.int .i64 k,.string s.ty,.string s.uid.ty,.string s.uid.id]
 who:Blk W (w.heap.size+1) 37 #[.int .i64 8,.int .i64 0,.string v,.string ⟨#[]⟩]
 slot:Blk W (w.heap.size+1+1) 37 #[.int .i64 8,.int .i64 0,.string (qB v),.string ⟨#[]⟩]
 uid:Blk W (w.heap.size+1+1+1) 37 #[.int .i64 4,.int .i64 0,.string s.uid.ty,.string s.uid.id]
 on:Below w.heap.size w W
theorem ScI.later {w:World}{k:Int}{s:Sc}{v:ByteArray}{W W':World}(h:ScI w k s v W)(hb:Below W.heap.size W W'):ScI w k s v W':=
 ⟨h.bx.below hb h.bx.lt,h.who.below hb h.who.lt,h.slot.below hb h.slot.lt,h.uid.below hb h.uid.lt,h.on.trans (hb.mono h.on.size)⟩
theorem ScI.new (w:World)(k:Int)(s:Sc)(v q:ByteArray)(hq:q=qB v):ScI w k s v ((((w.alloc (.cells #[.int .i64 k,.string s.ty,.string s.uid.ty,.string s.uid.id] 44)).alloc (.cells #[.int .i64 8,.int .i64 0,.string v,.string ⟨#[]⟩] 37)).alloc (.cells #[.int .i64 8,.int .i64 0,.string q,.string ⟨#[]⟩] 37)).alloc (.cells #[.int .i64 4,.int .i64 0,.string s.uid.ty,.string s.uid.id] 37)):=by
 subst hq;refine ⟨(((Blk.new w _ _).alloc _).alloc _).alloc _,?_,?_,?_,by (repeat (first | assumption | exact bR | apply bD | apply Za | refine bA ?_ _))⟩
 . have:=((Blk.new (w.alloc (.cells #[.int .i64 k,.string s.ty,.string s.uid.ty,.string s.uid.id] 44)) 37 #[.int .i64 8,.int .i64 0,.string v,.string ⟨#[]⟩]).alloc (.cells #[.int .i64 8,.int .i64 0,.string (qB v),.string ⟨#[]⟩] 37)).alloc (.cells #[.int .i64 4,.int .i64 0,.string s.uid.ty,.string s.uid.id] 37);rwa [World.size_alloc] at this
 . have:=(Blk.new ((w.alloc (.cells #[.int .i64 k,.string s.ty,.string s.uid.ty,.string s.uid.id] 44)).alloc (.cells #[.int .i64 8,.int .i64 0,.string v,.string ⟨#[]⟩] 37)) 37 #[.int .i64 8,.int .i64 0,.string (qB v),.string ⟨#[]⟩]).alloc (.cells #[.int .i64 4,.int .i64 0,.string s.uid.ty,.string s.uid.id] 37);rwa [World.size_alloc,World.size_alloc] at this
 . have:=Blk.new (((w.alloc (.cells #[.int .i64 k,.string s.ty,.string s.uid.ty,.string s.uid.id] 44)).alloc (.cells #[.int .i64 8,.int .i64 0,.string v,.string ⟨#[]⟩] 37)).alloc (.cells #[.int .i64 8,.int .i64 0,.string (qB v),.string ⟨#[]⟩] 37)) 37 #[.int .i64 4,.int .i64 0,.string s.uid.ty,.string s.uid.id];rwa [World.size_alloc,World.size_alloc,World.size_alloc] at this
theorem Zde {W:World}{T:TypeId}(x:Nd)(ps:List NsM)(cs:Array Value)(n c:Nat)(xs:List Nd)(hcs:cs.toList=Zr NsM.cells ps)(hn:n=ps.length)(hxs:xs=x :: Xl ps)(h:∀p∈ps,Yq W W.heap.size p)(hne:∀p∈ps,p.e≠[])(hl:(Xl ps).length<=100000)(hp:ps.length<=100000) :
 Calls Tryz.prog 55 #[.agg #[.int .i64 x.op,.int .i64 x.n,.string x.s,.string x.t],.slice (some ⟨W.heap.size,0,none⟩) n c] (W.alloc (.cells cs T)) λr w'=>J6 W r w' xs:=by
 subst hn hxs;refine (Z45 x ps _ c _ (Z3v hcs h) hne hl hp).mono ?_;rintro r w' ⟨A,c',h1,h2,h3,h4,h5⟩;exact ⟨A,c',h1,h2,h3,h4,((Below.refl _ _).alloc (nL _) _).trans (h5.mono (by simp))⟩
theorem op1 {w W:World}{k:Int}{s:Sc}{v:ByteArray}{T:TypeId}(h:ScI w k s v W)(x:Nd) :
 Calls Tryz.prog 55 #[.agg #[.int .i64 x.op,.int .i64 x.n,.string x.s,.string x.t],.slice (some ⟨W.heap.size,0,none⟩) 1 1] (W.alloc (.cells #[.slice (some ⟨w.heap.size+1,0,none⟩) 1 1] T)) λr w'=>J6 W r w' [x,Xz v]:=
 Zde x [⟨some ⟨w.heap.size+1,0,none⟩,1,[Xz v]⟩] _ _ _ _ rfl rfl rfl (by simpa using Zjy (Xz v) h.who) (by simp) (by simp [Xl]) (by simp)
theorem Zsk {w W:World}{k:Int}{s:Sc}{v:ByteArray}{T:TypeId}(h:ScI w k s v W)(x:Nd) :
 Calls Tryz.prog 55 #[.agg #[.int .i64 x.op,.int .i64 x.n,.string x.s,.string x.t],.slice (some ⟨W.heap.size,0,none⟩) 2 2] (W.alloc (.cells #[.slice (some ⟨w.heap.size+1,0,none⟩) 1 1,.slice (some ⟨w.heap.size+1+1+1,0,none⟩) 1 1] T)) λr w'=>J6 W r w' [x,Xz v,Zae s.uid]:=
 Zde x [⟨some ⟨w.heap.size+1,0,none⟩,1,[Xz v]⟩,⟨some ⟨w.heap.size+1+1+1,0,none⟩,1,[Zae s.uid]⟩] _ _ _ _ rfl rfl rfl (by simpa using ⟨Zjy (Xz v) h.who,Zjy (Zae s.uid) h.uid⟩) (by simp) (by simp [Xl]) (by simp)
theorem Ztx {w W:World}{k:Int}{s:Sc}{v:ByteArray}{T:TypeId}(h:ScI w k s v W)(x:Nd) :
 Calls Tryz.prog 55 #[.agg #[.int .i64 x.op,.int .i64 x.n,.string x.s,.string x.t],.slice (some ⟨W.heap.size,0,none⟩) 2 2] (W.alloc (.cells #[.slice (some ⟨w.heap.size+1,0,none⟩) 1 1,.slice (some ⟨w.heap.size+1+1,0,none⟩) 1 1] T)) λr w'=>J6 W r w' [x,Xz v,Xz (qB v)]:=
 Zde x [⟨some ⟨w.heap.size+1,0,none⟩,1,[Xz v]⟩,⟨some ⟨w.heap.size+1+1,0,none⟩,1,[Xz (qB v)]⟩] _ _ _ _ rfl rfl rfl (by simpa using ⟨Zjy (Xz v) h.who,Zjy (Xz (qB v)) h.slot⟩) (by simp) (by simp [Xl]) (by simp)
set_option maxRecDepth 100000 in
theorem Znv (s:Sc)(v:ByteArray)(w:World)(hs:s.op=1)(hv:v.size<=1000) :
 Calls Tryz.prog 56 #[.agg #[.int .i64 s.op,.string s.ty,.string s.uid.ty,.string s.uid.id],.string v] w λr w'=>J6 w r w' (Yt s v):=by
 have HE:Hid (Yt s v = [opN 14,Xz v,Zae s.uid]):=by show _=_;unfold Yt;  rw [if_pos hs]
 rw [hs];go_enter Tryz.func56,Tryz.ntmps56
 go_wp2_with fail
 generalize hw4:(((w.alloc _).alloc _).alloc _).alloc _=W4;have hI:ScI w 1 s v W4:=by rw [<-hw4];exact ScI.new w 1 s v _ rfl
 have hz:w.heap.size+1+1+1+1=W4.heap.size:=by rw [<-hw4];simp
 clear hw4;rw [hz];refine (op1 hI ⟨24,0,s.ty,eB⟩).mono ?_;rintro r w1 ⟨A1,c1,rfl,hc1,hm1,hs1,hb1⟩;have HI2:=Ld (hI.later hb1);have c0:=HI2.out.bx.cell;have l0:=HI2.out.bx.lt;have HS1:=Ld hs1;have HC1:=Ld hc1;clear hI hz hb1 hs1 hc1;go_wp2_with fail
 refine (Zsk HI2.out (opN 14)).mono ?_;rintro r w2 ⟨A2,c2,rfl,hc2,hm2,hs2,hb2⟩;have HS:=Ld hs2;have HC:=Ld hc2;clear hs2 hc2 c0 l0;go_wp2_with fail
 go_ret
 rw [HE.out];exact ⟨A2,c2,rfl,HC.out,hm2,HS.out,HI2.out.on.trans (hb2.mono HI2.out.on.size)⟩
set_option maxRecDepth 100000 in
theorem Znu (s:Sc)(v:ByteArray)(w:World)(hs:s.op=2)(hv:v.size<=1000) :
 Calls Tryz.prog 56 #[.agg #[.int .i64 s.op,.string s.ty,.string s.uid.ty,.string s.uid.id],.string v] w λr w'=>J6 w r w' (Yt s v):=by
 have HE:Hid (Yt s v = [opN 20,Xz v,Zae s.uid]):=by show _=_;unfold Yt;rw [if_neg (by omega)];rw [if_pos hs]
 rw [hs];go_enter Tryz.func56,Tryz.ntmps56
 go_wp2_with fail
 generalize hw4:(((w.alloc _).alloc _).alloc _).alloc _=W4;have hI:ScI w 2 s v W4:=by rw [<-hw4];exact ScI.new w 2 s v _ rfl
 have hz:w.heap.size+1+1+1+1=W4.heap.size:=by rw [<-hw4];simp
 clear hw4;rw [hz];refine (op1 hI ⟨24,0,s.ty,eB⟩).mono ?_;rintro r w1 ⟨A1,c1,rfl,hc1,hm1,hs1,hb1⟩;have HI2:=Ld (hI.later hb1);have c0:=HI2.out.bx.cell;have l0:=HI2.out.bx.lt;have HS1:=Ld hs1;have HC1:=Ld hc1;clear hI hz hb1 hs1 hc1;go_wp2_with fail
 refine (Zsk HI2.out (opN 20)).mono ?_;rintro r w2 ⟨A2,c2,rfl,hc2,hm2,hs2,hb2⟩;have HS:=Ld hs2;have HC:=Ld hc2;clear hs2 hc2 c0 l0;go_wp2_with fail
 go_ret
 rw [HE.out];exact ⟨A2,c2,rfl,HC.out,hm2,HS.out,HI2.out.on.trans (hb2.mono HI2.out.on.size)⟩
set_option maxRecDepth 100000 in
theorem Zn5 (s:Sc)(v:ByteArray)(w:World)(hs:s.op=5)(hv:v.size<=1000) :
 Calls Tryz.prog 56 #[.agg #[.int .i64 s.op,.string s.ty,.string s.uid.ty,.string s.uid.id],.string v] w λr w'=>J6 w r w' (Yt s v):=by
 have HE:Hid (Yt s v = [opN 14,Xz v,Xz (qB v)]):=by show _=_;unfold Yt;rw [if_neg (by omega)];rw [if_neg (by omega)];rw [if_neg (by omega)];rw [if_neg (by omega)];rw [if_pos hs]
 rw [hs];go_enter Tryz.func56,Tryz.ntmps56
 go_wp2_with fail
 generalize hw4:(((w.alloc _).alloc _).alloc _).alloc _=W4;have hI:ScI w 5 s v W4:=by rw [<-hw4];exact ScI.new w 5 s v _ rfl
 have hz:w.heap.size+1+1+1+1=W4.heap.size:=by rw [<-hw4];simp
 clear hw4;rw [hz];refine (op1 hI ⟨24,0,s.ty,eB⟩).mono ?_;rintro r w1 ⟨A1,c1,rfl,hc1,hm1,hs1,hb1⟩;have HI2:=Ld (hI.later hb1);have c0:=HI2.out.bx.cell;have l0:=HI2.out.bx.lt;have HS1:=Ld hs1;have HC1:=Ld hc1;clear hI hz hb1 hs1 hc1;go_wp2_with fail
 refine (Ztx HI2.out (opN 14)).mono ?_;rintro r w2 ⟨A2,c2,rfl,hc2,hm2,hs2,hb2⟩;have HS:=Ld hs2;have HC:=Ld hc2;clear hs2 hc2 c0 l0;go_wp2_with fail
 go_ret
 rw [HE.out];exact ⟨A2,c2,rfl,HC.out,hm2,HS.out,HI2.out.on.trans (hb2.mono HI2.out.on.size)⟩
set_option maxRecDepth 100000 in
theorem Zn9 (s:Sc)(v:ByteArray)(w:World)(hs:s.op=6)(hv:v.size<=1000) :
 Calls Tryz.prog 56 #[.agg #[.int .i64 s.op,.string s.ty,.string s.uid.ty,.string s.uid.id],.string v] w λr w'=>J6 w r w' (Yt s v):=by
 have HE:Hid (Yt s v = [opN 20,Xz v,Xz (qB v)]):=by show _=_;unfold Yt;rw [if_neg (by omega)];rw [if_neg (by omega)];rw [if_neg (by omega)];rw [if_neg (by omega)];rw [if_neg (by omega)];rw [if_pos hs]
 rw [hs];go_enter Tryz.func56,Tryz.ntmps56
 go_wp2_with fail
 generalize hw4:(((w.alloc _).alloc _).alloc _).alloc _=W4;have hI:ScI w 6 s v W4:=by rw [<-hw4];exact ScI.new w 6 s v _ rfl
 have hz:w.heap.size+1+1+1+1=W4.heap.size:=by rw [<-hw4];simp
 clear hw4;rw [hz];refine (op1 hI ⟨24,0,s.ty,eB⟩).mono ?_;rintro r w1 ⟨A1,c1,rfl,hc1,hm1,hs1,hb1⟩;have HI2:=Ld (hI.later hb1);have c0:=HI2.out.bx.cell;have l0:=HI2.out.bx.lt;have HS1:=Ld hs1;have HC1:=Ld hc1;clear hI hz hb1 hs1 hc1;go_wp2_with fail
 refine (Ztx HI2.out (opN 20)).mono ?_;rintro r w2 ⟨A2,c2,rfl,hc2,hm2,hs2,hb2⟩;have HS:=Ld hs2;have HC:=Ld hc2;clear hs2 hc2 c0 l0;go_wp2_with fail
 go_ret
 rw [HE.out];exact ⟨A2,c2,rfl,HC.out,hm2,HS.out,HI2.out.on.trans (hb2.mono HI2.out.on.size)⟩
set_option maxRecDepth 100000 in
theorem Zov (s:Sc)(v:ByteArray)(w:World)(hs:s.op=3)(hv:v.size<=1000) :
 Calls Tryz.prog 56 #[.agg #[.int .i64 s.op,.string s.ty,.string s.uid.ty,.string s.uid.id],.string v] w λr w'=>J6 w r w' (Yt s v):=by
 have HE:Hid (Yt s v = [⟨24,0,s.ty,eB⟩,Xz v]):=by show _=_;unfold Yt;rw [if_neg (by omega)];rw [if_neg (by omega)];rw [if_pos hs]
 rw [hs];go_enter Tryz.func56,Tryz.ntmps56
 go_wp2_with fail
 generalize hw4:(((w.alloc _).alloc _).alloc _).alloc _=W4;have hI:ScI w 3 s v W4:=by rw [<-hw4];exact ScI.new w 3 s v _ rfl
 have hz:w.heap.size+1+1+1+1=W4.heap.size:=by rw [<-hw4];simp
 clear hw4;rw [hz];refine (op1 hI ⟨24,0,s.ty,eB⟩).mono ?_;rintro r w1 ⟨A1,c1,rfl,hc1,hm1,hs1,hb1⟩;have HI2:=Ld (hI.later hb1);have c0:=HI2.out.bx.cell;have l0:=HI2.out.bx.lt;have HS1:=Ld hs1;have HC1:=Ld hc1;clear hI hz hb1 hs1 hc1;go_wp2_with fail
 go_ret
 rw [HE.out];exact ⟨A1,c1,rfl,HC1.out,hm1,HS1.out,HI2.out.on⟩
set_option maxRecDepth 100000 in
theorem Zn0 (s:Sc)(v:ByteArray)(w:World)(hs:s.op=4)(hv:v.size<=1000) :
 Calls Tryz.prog 56 #[.agg #[.int .i64 s.op,.string s.ty,.string s.uid.ty,.string s.uid.id],.string v] w λr w'=>J6 w r w' (Yt s v):=by
 have HE:Hid (Yt s v = [opN 11,⟨24,0,s.ty,eB⟩,Xz v,opN 20,Xz v,Zae s.uid]):=by show _=_;unfold Yt;rw [if_neg (by omega)];rw [if_neg (by omega)];rw [if_neg (by omega)];rw [if_pos hs]
 rw [hs];go_enter Tryz.func56,Tryz.ntmps56
 go_wp2_with fail
 generalize hw4:(((w.alloc _).alloc _).alloc _).alloc _=W4;have hI:ScI w 4 s v W4:=by rw [<-hw4];exact ScI.new w 4 s v _ rfl
 have hz:w.heap.size+1+1+1+1=W4.heap.size:=by rw [<-hw4];simp
 clear hw4;rw [hz];refine (op1 hI ⟨24,0,s.ty,eB⟩).mono ?_;rintro r w1 ⟨A1,c1,rfl,hc1,hm1,hs1,hb1⟩;have HI2:=Ld (hI.later hb1);have c0:=HI2.out.bx.cell;have l0:=HI2.out.bx.lt;have HS1:=Ld hs1;have HC1:=Ld hc1;clear hI hz hb1 hs1 hc1;go_wp2_with fail
 refine (Zsk HI2.out (opN 20)).mono ?_;rintro r w2 ⟨A2,c2,rfl,hc2,hm2,hs2,hb2⟩;have HG1:Hid (Yq w2 w2.heap.size ⟨A1,c1,[⟨24,0,s.ty,eB⟩,Xz v]⟩):=Ld (Yq.later ⟨HS1.out,HC1.out,hm1⟩ hb2);have HG2:Hid (Yq w2 w2.heap.size ⟨A2,c2,[opN 20,Xz v,Zae s.uid]⟩):=Ld ⟨hs2,hc2,hm2⟩;have hw2:=HI2.out.on.trans (hb2.mono HI2.out.on.size);clear hs2 hc2 c0 l0 hb2;go_wp2_with fail
 refine (Zde (opN 11) [⟨A1,c1,[⟨24,0,s.ty,eB⟩,Xz v]⟩,⟨A2,c2,[opN 20,Xz v,Zae s.uid]⟩] _ 2 2 _ rfl rfl rfl (by simpa using ⟨HG1.out,HG2.out⟩) (by simp) (by simp [Xl]) (by simp)).mono ?_;rintro r w3 ⟨A3,c3,rfl,hc3,hm3,hs3,hb3⟩;have HS:=Ld hs3;have HC:=Ld hc3;clear hs3 hc3;go_wp2_with fail
 go_ret
 rw [HE.out];exact ⟨A3,c3,rfl,HC.out,hm3,HS.out,hw2.trans (hb3.mono hw2.size)⟩
set_option maxRecDepth 100000 in
theorem Zoe (s:Sc)(v:ByteArray)(w:World)(h1:¬s.op=1)(h2:¬s.op=2)(h3:¬s.op=3)(h4:¬s.op=4)(h5:¬s.op=5)(h6:¬s.op=6)(hv:v.size<=1000) :
 Calls Tryz.prog 56 #[.agg #[.int .i64 s.op,.string s.ty,.string s.uid.ty,.string s.uid.id],.string v] w λr w'=>J6 w r w' (Yt s v):=by
 have HE:Hid (Yt s v = [⟨1,1,eB,eB⟩]):=by show _=_;unfold Yt;simp only [h1,h2,h3,h4,h5,h6,if_false]
 have t1:(s.op==1)=false:=by simp [h1]
 have t2:(s.op==2)=false:=by simp [h2]
 have t3:(s.op==3)=false:=by simp [h3]
 have t4:(s.op==4)=false:=by simp [h4]
 have t5:(s.op==5)=false:=by simp [h5]
 have t6:(s.op==6)=false:=by simp [h6]
 clear h1 h2 h3 h4 h5 h6;go_enter Tryz.func56,Tryz.ntmps56
 go_wp2_with fail
 generalize hw4:(((w.alloc _).alloc _).alloc _).alloc _=W4;have hI:ScI w s.op s v W4:=by rw [<-hw4];exact ScI.new w s.op s v _ rfl
 have hz:w.heap.size+1+1+1+1=W4.heap.size:=by rw [<-hw4];simp
 clear hw4;rw [hz];refine (op1 hI ⟨24,0,s.ty,eB⟩).mono ?_;rintro r w1 ⟨A1,c1,rfl,hc1,hm1,hs1,hb1⟩;have HI2:=Ld (hI.later hb1);have c0:=HI2.out.bx.cell;have l0:=HI2.out.bx.lt;have HS1:=Ld hs1;have HC1:=Ld hc1;clear hI hz hb1 hs1 hc1;go_wp2_with fail
 go_ret
 rw [HE.out];have hw1:=HI2.out.on;exact ⟨some ⟨w1.heap.size,0,none⟩,1,rfl,nL _,by omega,Zzy (x:=⟨1,1,eB,eB⟩) (Blk.new w1 _ _),hw1.alloc hw1.size _⟩
theorem Zdl (s:Sc)(v:ByteArray)(w:World)(hv:v.size<=1000) :
 Calls Tryz.prog 56 #[.agg #[.int .i64 s.op,.string s.ty,.string s.uid.ty,.string s.uid.id],.string v] w λr w'=>J6 w r w' (Yt s v):=by
 by_cases h1:s.op=1
 . exact Znv s v w h1 hv
 by_cases h2:s.op=2
 . exact Znu s v w h2 hv
 by_cases h3:s.op=3
 . exact Zov s v w h3 hv
 by_cases h4:s.op=4
 . exact Zn0 s v w h4 hv
 by_cases h5:s.op=5
 . exact Zn5 s v w h5 hv
 by_cases h6:s.op=6
 . exact Zn9 s v w h6 hv
 exact Zoe s v w h1 h2 h3 h4 h5 h6 hv
end Go.Proofs.YtpheiojmcafolaaGreatDoor
