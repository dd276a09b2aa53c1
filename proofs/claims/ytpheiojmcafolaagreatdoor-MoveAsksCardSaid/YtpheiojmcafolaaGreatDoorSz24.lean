/-
 THE WALKS: (*eval.evaluation).next: what it owes; the leaves, names.
-/
import Derived.Test.YtpheiojmcafolaaGreatDoorSz23
set_option maxRecDepth 100000
set_option maxHeartbeats 25600000
namespace Go.Proofs.YtpheiojmcafolaaGreatDoor
open Go.RowKit Go.Sort
def gx (xb:Nat)(w:World)(b:Nat):Prop:=xb<=b/\b < w.heap.size
def Zh (x:Evl)(xb j:Nat)(q:Rs (List Nd))(w:World)(r:Ending)(w':World):Prop:=
 (∀v,q=.ok v->∃A c,r=.returned (.slice A v.length c)/\v.length<=c/\c<=9223372036854775807/\Xu (gx xb w) w' w'.heap.size A v/\Blk w' xb 99 (x.cells j))/\(∀k,q=.bad k->r=.panicked (noV k))/\Yk w.heap.size xb w w'
def Zs (x:Evl)(xs:List Nd):Prop:=∀(i xb:Nat) (rest:List Nd) (w:World),x.e.drop i=xs++rest->V0 x xb w->Blk w xb 99 (x.cells i) ->
 Calls Tryz.prog 52 #[.pointer (some ⟨xb,0,none⟩)] w (Zh x xb (i+xs.length) (evX x.es x.q xs) w)
structure Z58 (v:List Nd):Prop where
 ok:Zb v=0
 nd:Y0 v
 ni:NdI v
theorem Zln {x:Evl}{xb:Nat}{w:World}(hx:V0 x xb w){xs:List Nd}(hex:Ex (.one false) xs)(hk:Y0 xs)(hi:NdI xs){v:List Nd}(h:evX x.es x.q xs=.ok v):Z58 v:=by
 obtain ⟨-,hvs⟩:=Zkt hx.ok;have hne:∀v,Zb v=0->v≠[]:=λv hv=>by obtain ⟨y,r,e,_⟩:=((Z0 v).1 hv).2.ne;rw [e];simp
 have hctx:Zb x.q.ctx=0:=by
  have:=hx.qv;unfold Vr at this;by_cases h1:Zw x.q.who=0 <;> by_cases h2:Zw x.q.act=0 <;> by_cases h3:Zw x.q.what=0 <;> by_cases h4:Zb x.q.ctx=0 <;> simp_all
 refine ⟨Zno hx.qv xs.length xs hex h,?_,?_⟩
 . exact (Zp1 (es:=x.es) (q:=x.q) ⟨λe he=>⟨hne _ (hvs e he).2.1,hx.az e he⟩,hx.uz,hx.pz⟩ ⟨hx.qz.1,hx.qz.2.1,hx.qz.2.2,hne _ hctx,hx.qk⟩ xs.length xs hk h).2
 . exact (Zlq (es:=x.es) (q:=x.q) ⟨λe he=>⟨rfl,hx.ai e he⟩⟩ ⟨⟨rfl,hx.qi⟩⟩ xs.length xs hi h).2
structure NxS (xb i be oe:Nat)(x:Evl)(n:Nd)(w0 W:World):Prop where
 s0:W.cell? ⟨xb,8,none⟩=some (.slice (some ⟨be,oe,none⟩) x.e.length x.eca)
 s1:W.cell? ⟨xb,9,none⟩=some (.int .i64 i)
 s2:W.cell? ⟨be,oe+i*4,none⟩=some (.int .i64 n.op)
 s3:W.cell? ⟨be,oe+i*4+1,none⟩=some (.int .i64 n.n)
 s4:W.cell? ⟨be,oe+i*4+2,none⟩=some (.string n.s)
 s5:W.cell? ⟨be,oe+i*4+3,none⟩=some (.string n.t)
theorem NxS.alloc {xb i be oe:Nat}{x:Evl}{n:Nd}{w0 W:World}(h:NxS xb i be oe x n w0 W.drew)(hx:xb < W.heap.size)(hb:be < W.heap.size)(o:Obj):NxS xb i be oe x n w0 ((W.alloc o).drew):=by
 have a:∀{b o':Nat} {v:Value},b < W.heap.size->W.cell? ⟨b,o',none⟩=some v->(W.alloc o).drew.cell? ⟨b,o',none⟩=some v:=λhb h=>by
  rw [<-h];exact World.cell?_alloc_past (w:=W) o _ _ hb
 exact ⟨a hx h.s0,a hx h.s1,a hb h.s2,a hb h.s3,a hb h.s4,a hb h.s5⟩
theorem Vc (b o n c i:Nat)(h:i < n)(W:World):(Instr.indexAt 22 (.slice (some ⟨b,o,none⟩) n c) (.int .i64 (i:Int))).run Tryz.prog W=.ok (.pointer (some ⟨b,o+i*4,none⟩)) W:=by
 have h0:(i:Int) < (n:Int):=by omega
 have h1:0<=(i:Int):=by omega
 go_simp
theorem Znn (W:World)(n:Nd):Jj ((W.alloc (.cells #[.int .i64 n.op,.int .i64 n.n,.string n.s,.string n.t] 37)).drew) W.heap.size 0 n:=
 have h:Jj (W.alloc (.cells #[.int .i64 n.op,.int .i64 n.n,.string n.s,.string n.t] 37)) W.heap.size 0 n:=⟨by rw [World.cell?_alloc_new];rfl,by rw [World.cell?_alloc_new];rfl,by rw [World.cell?_alloc_new];rfl,by rw [World.cell?_alloc_new];rfl⟩;⟨h.c0,h.c1,h.c2,h.c3⟩
theorem Evl.step {x:Evl}{w:World}{xb i:Nat}{T:TypeId}(h:Blk w xb T (x.cells i)):Blk (w.setCell ⟨xb,9,none⟩ (.int .i64 ((i:Int)+1))) xb T (x.cells (i+1)):=h.set 9 _
structure NxI (x:Evl)(xb j:Nat)(n:Nd)(w W:World):Prop where
 blk:Blk W xb 99 (x.cells j)
 ev:V0 x xb W
 nd:Jj W w.heap.size 0 n
 only:Yk w.heap.size xb w W
 sz:w.heap.size < W.heap.size
def nw (w:World)(xb i:Nat)(n:Nd):World:=(w.setCell ⟨xb,9,none⟩ (.int .i64 ((i:Int)+1))).alloc (.cells #[.int .i64 n.op,.int .i64 n.n,.string n.s,.string n.t] 37)
theorem Jj.drew {W:World}{b o:Nat}{n:Nd}(h:Jj W b o n):Jj W.drew b o n:=⟨h.c0,h.c1,h.c2,h.c3⟩
theorem V0.drew {x:Evl}{B:Nat}{W:World}(h:V0 x B W):V0 x B W.drew:=h.keep (RowKit.Below.refl _ _).drew
theorem NxI.drew {x:Evl}{xb i:Nat}{n:Nd}{w W:World}(h:NxI x xb i n w W):NxI x xb i n w W.drew:=⟨h.blk.drew,h.ev.drew,h.nd.drew,h.only.drew,h.sz⟩
theorem Z1a (w:World)(xb i:Nat)(n:Nd):(nw w xb i n).heap.size=w.heap.size+1:=by simp [nw]
theorem Xq {x:Evl}{xb i:Nat}{n:Nd}{w:World}(hx:V0 x xb w)(hB:Blk w xb 99 (x.cells i)):NxI x xb (i+1) n w (nw w xb i n):=by
 have hxb:=hB.lt;have h1:Yk w.heap.size xb w (w.setCell ⟨xb,9,none⟩ (.int .i64 ((i:Int)+1))):=(Yk.refl _ _ w).setCell (p:=⟨xb,9,none⟩) (Or.inl rfl) (.int .i64 ((i:Int)+1));have hsz:(w.setCell ⟨xb,9,none⟩ (.int .i64 ((i:Int)+1))).heap.size=w.heap.size:=by simp
 have h2:Yk w.heap.size xb w (nw w xb i n):=h1.alloc (Nat.le_of_eq hsz.symm) _;have hn:=Znn (w.setCell ⟨xb,9,none⟩ (.int .i64 ((i:Int)+1))) n;rw [hsz] at hn;exact ⟨(Evl.step hB).alloc _,hx.keep (h2.below (Nat.le_of_lt hxb) (nL _)),⟨hn.c0,hn.c1,hn.c2,hn.c3⟩,h2,by simp [nw]⟩
theorem Xu.up {xb:Nat}{w W w':World}{A:Option Addr}{v:List Nd}(h:Xu (gx xb W) w' w'.heap.size A v)(hz:w.heap.size<=W.heap.size):Xu (gx xb w) w' w'.heap.size A v:=λhne=>by
 obtain ⟨b,o,e1,e2,e3,e4⟩:=h hne;exact ⟨b,o,e1,e2,by unfold gx at e3 ⊢;omega,e4⟩
theorem Xu.past {xb B:Nat}{w w1 w':World}{A:Option Addr}{v:List Nd}(h:Xu (gx xb w) w1 w1.heap.size A v)(ho:Yk B xb w1 w')(hB:w1.heap.size<=B)(hx:xb < w.heap.size):Xu (gx xb w) w' w'.heap.size A v:=
 h.keep (λp h1 h2=>ho.cell (Nat.lt_of_lt_of_le h1 hB) (λe=>h2 ⟨by omega,by omega⟩)) ho.size
theorem Zh.ok {x:Evl}{xb j:Nat}{v:List Nd}{w w':World}{A:Option Addr}{c:Nat}(h1:v.length<=c)(h2:c<=9223372036854775807)(h3:Xu (gx xb w) w' w'.heap.size A v)(h4:Blk w' xb 99 (x.cells j))(h5:Yk w.heap.size xb w w'):Zh x xb j (.ok v) w (.returned (.slice A v.length c)) w':=
 ⟨λv' e=>by injection e with e;subst e;exact ⟨A,c,rfl,h1,h2,h3,h4⟩,λk e=>(nomatch e),h5⟩
theorem Zh.bad {x:Evl}{xb j:Nat}{k:Int}{w w':World}(h5:Yk w.heap.size xb w w'):Zh x xb j (.bad k) w (.panicked (noV k)) w':=
 ⟨λv' e=>(nomatch e),λk' e=>by injection e with e;subst e;rfl,h5⟩
theorem Zeq {x:Evl}{xb i:Nat}{n:Nd}{w:World}(h:NxI x xb (i+1) n w (nw w xb i n))(_hxb:xb < w.heap.size):Zh x xb (i+1) (.ok [n]) w (.returned (.slice (some ⟨w.heap.size+1,0,none⟩) 1 1)) ((nw w xb i n).alloc (.cells #[.int .i64 n.op,.int .i64 n.n,.string n.s,.string n.t] 37)).drew:=by
 have hn:=Znn (nw w xb i n) n;rw [Z1a] at hn;refine Zh.ok (v:=[n]) (by simp) (by omega) (λ_=>⟨w.heap.size+1,0,rfl,by simp [nw],by unfold gx;omega,λk y hk=>?_⟩) (h.blk.alloc _).drew (h.only.alloc (Nat.le_of_lt h.sz) _).drew;obtain rfl:k=0:=by
  have:=(List.getElem?_eq_some_iff.1 hk).1;simp at this;exact this
 simp at hk;subst hk;exact hn
theorem Z38 (x:Evl)(n:Nd)(ho:n.op=1):Zs x [n]:=by
 intro i xb rest w hdr hx hB;have hn:x.e[i]? = some n:=by
  have:=congrArg (λl=>l[0]?) hdr;simpa [List.getElem?_drop] using this
 have hil:i < x.e.length:=(List.getElem?_eq_some_iff.1 hn).1;have hxb:=hB.lt;obtain ⟨be,oe,hea,hbe,hcs⟩:=hx.ex.at_ hil;obtain ⟨n0,n1,n2,n3⟩:=hcs i n hn;have hS0:NxS xb i be oe x n w w.drew:=⟨by rw [<-hea];exact hB.cell 8,hB.cell 9,n0,n1,n2,n3⟩;have hbw:be < w.heap.size:=Nat.lt_trans hbe hxb;have HS0:=Ld (hS0.alloc hxb hbw);have HS1:=Ld hS0;have hia:=Vc be oe x.e.length x.eca i hil;have HDR:=Ld hdr;have hni:=Xq (n:=n) hx hB;have HNI:=Ld hni;have h9:w.cell? ⟨xb,9,none⟩=some (.int .i64 i):=hS0.s1;have hf9:w.frozen? ⟨xb,9,none⟩=false:=hB.frozen 9;have hi1:IntKind.wrap .i64 ((i:Int)+1)=(i:Int)+1:=by
  have:=hx.el;exact IntWalk.i64_in _ (by omega)
 clear hcs n0 n1 n2 n3 hea hn hx hB hdr hS0 hni;have t1:(n.op==1)=true:=by simp [ho]
 have t2:(n.op==2)=false:=by simp [ho]
 have t3:(n.op==3)=false:=by simp [ho]
 have t4:(n.op==4)=false:=by simp [ho]
 have t8:(n.op==8)=false:=by simp [ho]
 have t11:(n.op==11)=false:=by simp [ho]
 have t12:(n.op==12)=false:=by simp [ho]
 have t13:(n.op==13)=false:=by simp [ho]
 have t5:(n.op==5)=false:=by simp [ho]
 have t6:(n.op==6)=false:=by simp [ho]
 have t9:(n.op==9)=false:=by simp [ho]
 have t10:(n.op==10)=false:=by simp [ho]
 have t21:(n.op==21)=false:=by simp [ho]
 have t22:(n.op==22)=false:=by simp [ho]
 have t23:(n.op==23)=false:=by simp [ho]
 have t24:(n.op==24)=false:=by simp [ho]
 rw [Zce x.es x.q (by omega)];clear ho;go_enter Tryz.func52,Tryz.ntmps52
 go_wp2_with fail
 refine Zg (S:=NxS xb i be oe x n w) [(0,false),(1,false),(2,false),(3,false),(4,false),(5,false),(6,false),(7,false),(8,false),(9,false),(10,true),(11,true)] (by kernel_rfl) (by kernel_rfl) (λ_ _ _ _ _ h=>h) HS1.out (λhW'=>?_);simp only [Yl,List.filterMap_cons,List.filterMap_nil,List.getElem?_cons_zero,List.getElem?_cons_succ,Option.map_some];(repeat ((first | (refine Ze (v:=?_) (by rfl) ?_ ?_;rotate_left;(focus (intro W hW;obtain ⟨s0,s1,s2,s3,s4,s5⟩:=hW;go_simp;try with_reducible rfl))) | refine Zd (by rfl) ?_);simp only [Act.put,pA,pB,pC]))
 clear hW';refine Zc (λK hK=>?_);go_simp
 refine hK _ _ (HS0.out _) ?_;clear hK K;refine Zc (λK hK=>?_);go_simp
 refine hK _ _ (HS0.out _) ?_;clear hK K;refine Yj ?_;go_wp2_with fail
 go_ret
 exact Zeq HNI.out hxb
theorem Z4j (x:Evl)(n:Nd)(ho:n.op=2):Zs x [n]:=by
 intro i xb rest w hdr hx hB;have hn:x.e[i]? = some n:=by
  have:=congrArg (λl=>l[0]?) hdr;simpa [List.getElem?_drop] using this
 have hil:i < x.e.length:=(List.getElem?_eq_some_iff.1 hn).1;have hxb:=hB.lt;obtain ⟨be,oe,hea,hbe,hcs⟩:=hx.ex.at_ hil;obtain ⟨n0,n1,n2,n3⟩:=hcs i n hn;have hS0:NxS xb i be oe x n w w.drew:=⟨by rw [<-hea];exact hB.cell 8,hB.cell 9,n0,n1,n2,n3⟩;have hbw:be < w.heap.size:=Nat.lt_trans hbe hxb;have HS0:=Ld (hS0.alloc hxb hbw);have HS1:=Ld hS0;have hia:=Vc be oe x.e.length x.eca i hil;have HDR:=Ld hdr;have hni:=Xq (n:=n) hx hB;have HNI:=Ld hni;have h9:w.cell? ⟨xb,9,none⟩=some (.int .i64 i):=hS0.s1;have hf9:w.frozen? ⟨xb,9,none⟩=false:=hB.frozen 9;have hi1:IntKind.wrap .i64 ((i:Int)+1)=(i:Int)+1:=by
  have:=hx.el;exact IntWalk.i64_in _ (by omega)
 clear hcs n0 n1 n2 n3 hea hn hx hB hdr hS0 hni;have t1:(n.op==1)=false:=by simp [ho]
 have t2:(n.op==2)=true:=by simp [ho]
 have t3:(n.op==3)=false:=by simp [ho]
 have t4:(n.op==4)=false:=by simp [ho]
 have t8:(n.op==8)=false:=by simp [ho]
 have t11:(n.op==11)=false:=by simp [ho]
 have t12:(n.op==12)=false:=by simp [ho]
 have t13:(n.op==13)=false:=by simp [ho]
 have t5:(n.op==5)=false:=by simp [ho]
 have t6:(n.op==6)=false:=by simp [ho]
 have t9:(n.op==9)=false:=by simp [ho]
 have t10:(n.op==10)=false:=by simp [ho]
 have t21:(n.op==21)=false:=by simp [ho]
 have t22:(n.op==22)=false:=by simp [ho]
 have t23:(n.op==23)=false:=by simp [ho]
 have t24:(n.op==24)=false:=by simp [ho]
 rw [Zce x.es x.q (by omega)];clear ho;go_enter Tryz.func52,Tryz.ntmps52
 go_wp2_with fail
 refine Zg (S:=NxS xb i be oe x n w) [(0,false),(1,false),(2,false),(3,false),(4,false),(5,false),(6,false),(7,false),(8,false),(9,false),(10,true),(11,true)] (by kernel_rfl) (by kernel_rfl) (λ_ _ _ _ _ h=>h) HS1.out (λhW'=>?_);simp only [Yl,List.filterMap_cons,List.filterMap_nil,List.getElem?_cons_zero,List.getElem?_cons_succ,Option.map_some];(repeat ((first | (refine Ze (v:=?_) (by rfl) ?_ ?_;rotate_left;(focus (intro W hW;obtain ⟨s0,s1,s2,s3,s4,s5⟩:=hW;go_simp;try with_reducible rfl))) | refine Zd (by rfl) ?_);simp only [Act.put,pA,pB,pC]))
 clear hW';refine Zc (λK hK=>?_);go_simp
 refine hK _ _ (HS0.out _) ?_;clear hK K;refine Zc (λK hK=>?_);go_simp
 refine hK _ _ (HS0.out _) ?_;clear hK K;refine Yj ?_;go_wp2_with fail
 go_ret
 exact Zeq HNI.out hxb
theorem Z40 (x:Evl)(n:Nd)(ho:n.op=3):Zs x [n]:=by
 intro i xb rest w hdr hx hB;have hn:x.e[i]? = some n:=by
  have:=congrArg (λl=>l[0]?) hdr;simpa [List.getElem?_drop] using this
 have hil:i < x.e.length:=(List.getElem?_eq_some_iff.1 hn).1;have hxb:=hB.lt;obtain ⟨be,oe,hea,hbe,hcs⟩:=hx.ex.at_ hil;obtain ⟨n0,n1,n2,n3⟩:=hcs i n hn;have hS0:NxS xb i be oe x n w w.drew:=⟨by rw [<-hea];exact hB.cell 8,hB.cell 9,n0,n1,n2,n3⟩;have hbw:be < w.heap.size:=Nat.lt_trans hbe hxb;have HS0:=Ld (hS0.alloc hxb hbw);have HS1:=Ld hS0;have hia:=Vc be oe x.e.length x.eca i hil;have HDR:=Ld hdr;have hni:=Xq (n:=n) hx hB;have HNI:=Ld hni;have h9:w.cell? ⟨xb,9,none⟩=some (.int .i64 i):=hS0.s1;have hf9:w.frozen? ⟨xb,9,none⟩=false:=hB.frozen 9;have hi1:IntKind.wrap .i64 ((i:Int)+1)=(i:Int)+1:=by
  have:=hx.el;exact IntWalk.i64_in _ (by omega)
 clear hcs n0 n1 n2 n3 hea hn hx hB hdr hS0 hni;have t1:(n.op==1)=false:=by simp [ho]
 have t2:(n.op==2)=false:=by simp [ho]
 have t3:(n.op==3)=true:=by simp [ho]
 have t4:(n.op==4)=false:=by simp [ho]
 have t8:(n.op==8)=false:=by simp [ho]
 have t11:(n.op==11)=false:=by simp [ho]
 have t12:(n.op==12)=false:=by simp [ho]
 have t13:(n.op==13)=false:=by simp [ho]
 have t5:(n.op==5)=false:=by simp [ho]
 have t6:(n.op==6)=false:=by simp [ho]
 have t9:(n.op==9)=false:=by simp [ho]
 have t10:(n.op==10)=false:=by simp [ho]
 have t21:(n.op==21)=false:=by simp [ho]
 have t22:(n.op==22)=false:=by simp [ho]
 have t23:(n.op==23)=false:=by simp [ho]
 have t24:(n.op==24)=false:=by simp [ho]
 rw [Zce x.es x.q (by omega)];clear ho;go_enter Tryz.func52,Tryz.ntmps52
 go_wp2_with fail
 refine Zg (S:=NxS xb i be oe x n w) [(0,false),(1,false),(2,false),(3,false),(4,false),(5,false),(6,false),(7,false),(8,false),(9,false),(10,true),(11,true)] (by kernel_rfl) (by kernel_rfl) (λ_ _ _ _ _ h=>h) HS1.out (λhW'=>?_);simp only [Yl,List.filterMap_cons,List.filterMap_nil,List.getElem?_cons_zero,List.getElem?_cons_succ,Option.map_some];(repeat ((first | (refine Ze (v:=?_) (by rfl) ?_ ?_;rotate_left;(focus (intro W hW;obtain ⟨s0,s1,s2,s3,s4,s5⟩:=hW;go_simp;try with_reducible rfl))) | refine Zd (by rfl) ?_);simp only [Act.put,pA,pB,pC]))
 clear hW';refine Zc (λK hK=>?_);go_simp
 refine hK _ _ (HS0.out _) ?_;clear hK K;refine Zc (λK hK=>?_);go_simp
 refine hK _ _ (HS0.out _) ?_;clear hK K;refine Yj ?_;go_wp2_with fail
 go_ret
 exact Zeq HNI.out hxb
theorem Z4t (x:Evl)(n:Nd)(ho:n.op=4):Zs x [n]:=by
 intro i xb rest w hdr hx hB;have hn:x.e[i]? = some n:=by
  have:=congrArg (λl=>l[0]?) hdr;simpa [List.getElem?_drop] using this
 have hil:i < x.e.length:=(List.getElem?_eq_some_iff.1 hn).1;have hxb:=hB.lt;obtain ⟨be,oe,hea,hbe,hcs⟩:=hx.ex.at_ hil;obtain ⟨n0,n1,n2,n3⟩:=hcs i n hn;have hS0:NxS xb i be oe x n w w.drew:=⟨by rw [<-hea];exact hB.cell 8,hB.cell 9,n0,n1,n2,n3⟩;have hbw:be < w.heap.size:=Nat.lt_trans hbe hxb;have HS0:=Ld (hS0.alloc hxb hbw);have HS1:=Ld hS0;have hia:=Vc be oe x.e.length x.eca i hil;have HDR:=Ld hdr;have hni:=Xq (n:=n) hx hB;have HNI:=Ld hni;have h9:w.cell? ⟨xb,9,none⟩=some (.int .i64 i):=hS0.s1;have hf9:w.frozen? ⟨xb,9,none⟩=false:=hB.frozen 9;have hi1:IntKind.wrap .i64 ((i:Int)+1)=(i:Int)+1:=by
  have:=hx.el;exact IntWalk.i64_in _ (by omega)
 clear hcs n0 n1 n2 n3 hea hn hx hB hdr hS0 hni;have t1:(n.op==1)=false:=by simp [ho]
 have t2:(n.op==2)=false:=by simp [ho]
 have t3:(n.op==3)=false:=by simp [ho]
 have t4:(n.op==4)=true:=by simp [ho]
 have t8:(n.op==8)=false:=by simp [ho]
 have t11:(n.op==11)=false:=by simp [ho]
 have t12:(n.op==12)=false:=by simp [ho]
 have t13:(n.op==13)=false:=by simp [ho]
 have t5:(n.op==5)=false:=by simp [ho]
 have t6:(n.op==6)=false:=by simp [ho]
 have t9:(n.op==9)=false:=by simp [ho]
 have t10:(n.op==10)=false:=by simp [ho]
 have t21:(n.op==21)=false:=by simp [ho]
 have t22:(n.op==22)=false:=by simp [ho]
 have t23:(n.op==23)=false:=by simp [ho]
 have t24:(n.op==24)=false:=by simp [ho]
 rw [Zce x.es x.q (by omega)];clear ho;go_enter Tryz.func52,Tryz.ntmps52
 go_wp2_with fail
 refine Zg (S:=NxS xb i be oe x n w) [(0,false),(1,false),(2,false),(3,false),(4,false),(5,false),(6,false),(7,false),(8,false),(9,false),(10,true),(11,true)] (by kernel_rfl) (by kernel_rfl) (λ_ _ _ _ _ h=>h) HS1.out (λhW'=>?_);simp only [Yl,List.filterMap_cons,List.filterMap_nil,List.getElem?_cons_zero,List.getElem?_cons_succ,Option.map_some];(repeat ((first | (refine Ze (v:=?_) (by rfl) ?_ ?_;rotate_left;(focus (intro W hW;obtain ⟨s0,s1,s2,s3,s4,s5⟩:=hW;go_simp;try with_reducible rfl))) | refine Zd (by rfl) ?_);simp only [Act.put,pA,pB,pC]))
 clear hW';refine Zc (λK hK=>?_);go_simp
 refine hK _ _ (HS0.out _) ?_;clear hK K;refine Zc (λK hK=>?_);go_simp
 refine hK _ _ (HS0.out _) ?_;clear hK K;refine Yj ?_;go_wp2_with fail
 go_ret
 exact Zeq HNI.out hxb
def NxA (x:Evl)(xb j:Nat)(n:Nd)(q:Rs (List Nd))(w W:World)(r:Ending)(w':World):Prop:=
 (∀v,q=.ok v->∃A c,r=.returned (.slice A v.length c)/\Yr v A c w'/\NdI v/\Xu (gx xb w) w' w'.heap.size A v/\NxI x xb j n w w')/\(∀k,q=.bad k->r=.panicked (noV k))/\Yk w.heap.size xb w w'/\Yk W.heap.size xb W w'
theorem Jj.only {W w':World}{b o B g:Nat}{n:Nd}(h:Jj W b o n)(ho:Yk B g W w')(hb:b < B)(hg:b≠g):Jj w' b o n:=
 ⟨(ho.cell hb hg).trans h.c0,(ho.cell hb hg).trans h.c1,(ho.cell hb hg).trans h.c2,(ho.cell hb hg).trans h.c3⟩
theorem NxI.next {x:Evl}{xb j:Nat}{n:Nd}{w W:World}{a rest:List Nd}(h:NxI x xb j n w W)(hxb:xb < w.heap.size)(ha:Zs x a)(hex:Ex (.one false) a)(hd:x.e.drop j=a++rest) :
 Calls Tryz.prog 52 #[.pointer (some ⟨xb,0,none⟩)] W (NxA x xb (j+a.length) n (evX x.es x.q a) w W):=by
 have hmem:∀y∈a,y∈x.e:=λy hy=>List.mem_of_mem_drop (i:=j) (by rw [hd];simp [hy]);have hk:Y0 a:=Y0.sub h.ev.ek hmem;have hi:NdI a:=NdI.sub h.ev.ei hmem;have hsz:=h.sz;refine (ha j xb rest W hd h.ev h.blk).mono ?_;rintro r w' ⟨h1,h2,h3⟩;have ho:Yk w.heap.size xb w w':=h.only.trans (h3.mono (Nat.le_of_lt hsz));refine ⟨λv hv=>?_,h2,ho,h3⟩;obtain ⟨A,c,rfl,g1,g2,g3,g4⟩:=h1 v hv;have hf:=Zln h.ev hex hk hi hv;exact ⟨A,c,rfl,⟨hf.ok,hf.nd,g1,g2,g3.sl⟩,hf.ni,g3.up (Nat.le_of_lt hsz),g4,h.ev.keep (h3.below (Nat.le_of_lt h.blk.lt) (nL _)),h.nd.only h3 hsz (by omega),ho,Nat.lt_of_lt_of_le hsz h3.size⟩
theorem Zh.rs {x:Evl}{xb j:Nat}{n:Nd}{q:Rs (List Nd)}{w W w':World}{r:Ending}(h:NxI x xb j n w W)(hr:Zp W r w' q):Zh x xb j q w r w':=by
 obtain ⟨h1,h2,h3⟩:=hr;have hl:=h.blk.lt;have ho:Yk W.heap.size xb W w':=Yk.of_below h3 (nL _);refine ⟨λv hv=>?_,h2,h.only.trans (ho.mono (Nat.le_of_lt h.sz))⟩;obtain ⟨A,c,e,g1,g2,g3,_,g5⟩:=h1 v hv;refine ⟨A,c,e,g1,g2,λhne=>?_,h.blk.below h3 hl⟩;obtain ⟨b,o,e1,e2,e3⟩:=g3 hne;exact ⟨b,o,e1,e2,by have:=g5 b o e1;have:=h.sz;unfold gx;omega,e3⟩
structure OpS (b:Nat)(k:Int)(W:World):Prop where
 s0:W.cell? ⟨b,0,none⟩=some (.int .i64 k)
theorem Z4v (x:Evl)(n:Nd)(a:List Nd)(ha:Zs x a)(hex:Ex (.one false) a)(ho:n.op=9):Zs x (n :: a):=by
 intro i xb rest w hdr hx hB;have hn:x.e[i]? = some n:=by
  have:=congrArg (λl=>l[0]?) hdr;simpa [List.getElem?_drop] using this
 have hil:i < x.e.length:=(List.getElem?_eq_some_iff.1 hn).1;have hxb:=hB.lt;obtain ⟨be,oe,hea,hbe,hcs⟩:=hx.ex.at_ hil;obtain ⟨n0,n1,n2,n3⟩:=hcs i n hn;have hS0:NxS xb i be oe x n w w.drew:=⟨by rw [<-hea];exact hB.cell 8,hB.cell 9,n0,n1,n2,n3⟩;have hbw:be < w.heap.size:=Nat.lt_trans hbe hxb;have HS0:=Ld (hS0.alloc hxb hbw);have HS1:=Ld hS0;have hia:=Vc be oe x.e.length x.eca i hil;have HDR:=Ld hdr;have hni:=Xq (n:=n) hx hB;have HNI:=Ld hni;have h9:w.cell? ⟨xb,9,none⟩=some (.int .i64 i):=hS0.s1;have hf9:w.frozen? ⟨xb,9,none⟩=false:=hB.frozen 9;have hi1:IntKind.wrap .i64 ((i:Int)+1)=(i:Int)+1:=by
  have:=hx.el;exact IntWalk.i64_in _ (by omega)
 have hni0:=hni.drew;have hdr1:x.e.drop (i+1)=a++rest:=by
  have:=congrArg List.tail hdr;simpa [List.tail_drop] using this
 have hns:n.s.size<=140737488351232:=(hx.ek n (mG hn)).1;clear hcs n0 n1 n2 n3 hea hn hx hB hdr hS0 hni HDR;have t1:(n.op==1)=false:=by simp [ho]
 have t2:(n.op==2)=false:=by simp [ho]
 have t3:(n.op==3)=false:=by simp [ho]
 have t4:(n.op==4)=false:=by simp [ho]
 have t8:(n.op==8)=false:=by simp [ho]
 have t11:(n.op==11)=false:=by simp [ho]
 have t12:(n.op==12)=false:=by simp [ho]
 have t13:(n.op==13)=false:=by simp [ho]
 have t5:(n.op==5)=false:=by simp [ho]
 have t6:(n.op==6)=false:=by simp [ho]
 have t9:(n.op==9)=true:=by simp [ho]
 have t10:(n.op==10)=false:=by simp [ho]
 have t21:(n.op==21)=false:=by simp [ho]
 have t22:(n.op==22)=false:=by simp [ho]
 have t23:(n.op==23)=false:=by simp [ho]
 have t24:(n.op==24)=false:=by simp [ho]
 have hcall:=hni0.next hxb ha hex (rest:=rest) hdr1;unfold nw at hcall;have HA:=Ld hcall;have hlen:i+(n :: a).length=i+1+a.length:=by simp;omega
 rw [hlen,Zbn x.es x.q (by omega) hex];have ho':n.op=9\/n.op=10\/n.op=21\/n.op=22\/n.op=23\/n.op=24:=by omega
 have HOP:=Ld ho';have HNS:=Ld hns;generalize i+1+a.length=j at HA ⊢;generalize evX x.es x.q a=q at HA ⊢;obtain ⟨q',hq'⟩:∃q',q'=q.bind (λv=>Yc x.es n v):=⟨_,rfl⟩;rw [<-hq'];have HQ:=Ld hq';clear hcall hni0 hdr1 ha hex ho ho' hlen hns hq';go_enter Tryz.func52,Tryz.ntmps52
 go_wp2_with fail
 refine Zg (S:=NxS xb i be oe x n w) [(0,false),(1,false),(2,false),(3,false),(4,false),(5,false),(6,false),(7,false),(8,false),(9,false),(10,true),(11,true)] (by kernel_rfl) (by kernel_rfl) (λ_ _ _ _ _ h=>h) HS1.out (λhW'=>?_);simp only [Yl,List.filterMap_cons,List.filterMap_nil,List.getElem?_cons_zero,List.getElem?_cons_succ,Option.map_some];(repeat ((first | (refine Ze (v:=?_) (by rfl) ?_ ?_;rotate_left;(focus (intro W hW;obtain ⟨s0,s1,s2,s3,s4,s5⟩:=hW;go_simp;try with_reducible rfl))) | refine Zd (by rfl) ?_);simp only [Act.put,pA,pB,pC]))
 clear hW';refine Zc (λK hK=>?_);go_simp
 refine hK _ _ (HS0.out _) ?_;clear hK K;refine Zc (λK hK=>?_);go_simp
 refine hK _ _ (HS0.out _) ?_;clear hK K;refine Yj ?_;go_wp2_with fail
 refine HA.out.mono ?_;rintro r w1 ⟨hq1,hq2,ho1,hoW1⟩;have HO1:=Ld ho1;clear ho1 hoW1;cases q with
 | bad k=>
  have hr:=hq2 k rfl;subst hr;clear hq1 hq2;obtain rfl:q'=.bad k:=HQ.out;clear HQ;go_wp2_with fail
  exact ⟨rfl,Zh.bad HO1.out⟩
 | ok v=>
  obtain ⟨A,c,rfl,hv,hvi,-,hn1⟩:=hq1 v rfl;have HN1:=Ld hn1;have hs:=U3 x xb j n v A c w1 hn1.ev hn1.blk hv hvi HNS.out HOP.out;rw [show Yc x.es n v=q' from HQ.out.symm] at hs;have HS:=Ld hs;have c0:w1.cell? ⟨w.heap.size,0,none⟩=some (.int .i64 n.op):=hn1.nd.c0;have c1:w1.cell? ⟨w.heap.size,1,none⟩=some (.int .i64 n.n):=hn1.nd.c1;have c2:w1.cell? ⟨w.heap.size,2,none⟩=some (.string n.s):=hn1.nd.c2;have c3:w1.cell? ⟨w.heap.size,3,none⟩=some (.string n.t):=hn1.nd.c3;clear hn1 hq1 hq2 hv hvi hs HQ;go_wp2_with fail
  refine HS.out.mono ?_;rintro r w2 hr2;have hpost:=Zh.rs HN1.out hr2;obtain ⟨g1,g2,-⟩:=hr2;have HP:=Ld hpost;clear hpost;cases q' with
  | bad k=>
   have hr:=g2 k rfl;subst hr;clear g1 g2;go_wp2_with fail
   exact ⟨rfl,HP.out⟩
  | ok u=>
   obtain ⟨A2,c2',rfl,-⟩:=g1 u rfl;clear g1 g2;go_wp2_with fail
   go_ret
   exact HP.out
theorem Z2l (x:Evl)(n:Nd)(a:List Nd)(ha:Zs x a)(hex:Ex (.one false) a)(ho:n.op=10):Zs x (n :: a):=by
 intro i xb rest w hdr hx hB;have hn:x.e[i]? = some n:=by
  have:=congrArg (λl=>l[0]?) hdr;simpa [List.getElem?_drop] using this
 have hil:i < x.e.length:=(List.getElem?_eq_some_iff.1 hn).1;have hxb:=hB.lt;obtain ⟨be,oe,hea,hbe,hcs⟩:=hx.ex.at_ hil;obtain ⟨n0,n1,n2,n3⟩:=hcs i n hn;have hS0:NxS xb i be oe x n w w.drew:=⟨by rw [<-hea];exact hB.cell 8,hB.cell 9,n0,n1,n2,n3⟩;have hbw:be < w.heap.size:=Nat.lt_trans hbe hxb;have HS0:=Ld (hS0.alloc hxb hbw);have HS1:=Ld hS0;have hia:=Vc be oe x.e.length x.eca i hil;have HDR:=Ld hdr;have hni:=Xq (n:=n) hx hB;have HNI:=Ld hni;have h9:w.cell? ⟨xb,9,none⟩=some (.int .i64 i):=hS0.s1;have hf9:w.frozen? ⟨xb,9,none⟩=false:=hB.frozen 9;have hi1:IntKind.wrap .i64 ((i:Int)+1)=(i:Int)+1:=by
  have:=hx.el;exact IntWalk.i64_in _ (by omega)
 have hni0:=hni.drew;have hdr1:x.e.drop (i+1)=a++rest:=by
  have:=congrArg List.tail hdr;simpa [List.tail_drop] using this
 have hns:n.s.size<=140737488351232:=(hx.ek n (mG hn)).1;clear hcs n0 n1 n2 n3 hea hn hx hB hdr hS0 hni HDR;have t1:(n.op==1)=false:=by simp [ho]
 have t2:(n.op==2)=false:=by simp [ho]
 have t3:(n.op==3)=false:=by simp [ho]
 have t4:(n.op==4)=false:=by simp [ho]
 have t8:(n.op==8)=false:=by simp [ho]
 have t11:(n.op==11)=false:=by simp [ho]
 have t12:(n.op==12)=false:=by simp [ho]
 have t13:(n.op==13)=false:=by simp [ho]
 have t5:(n.op==5)=false:=by simp [ho]
 have t6:(n.op==6)=false:=by simp [ho]
 have t9:(n.op==9)=false:=by simp [ho]
 have t10:(n.op==10)=true:=by simp [ho]
 have t21:(n.op==21)=false:=by simp [ho]
 have t22:(n.op==22)=false:=by simp [ho]
 have t23:(n.op==23)=false:=by simp [ho]
 have t24:(n.op==24)=false:=by simp [ho]
 have hcall:=hni0.next hxb ha hex (rest:=rest) hdr1;unfold nw at hcall;have HA:=Ld hcall;have hlen:i+(n :: a).length=i+1+a.length:=by simp;omega
 rw [hlen,Zbn x.es x.q (by omega) hex];have ho':n.op=9\/n.op=10\/n.op=21\/n.op=22\/n.op=23\/n.op=24:=by omega
 have HOP:=Ld ho';have HNS:=Ld hns;generalize i+1+a.length=j at HA ⊢;generalize evX x.es x.q a=q at HA ⊢;obtain ⟨q',hq'⟩:∃q',q'=q.bind (λv=>Yc x.es n v):=⟨_,rfl⟩;rw [<-hq'];have HQ:=Ld hq';clear hcall hni0 hdr1 ha hex ho ho' hlen hns hq';go_enter Tryz.func52,Tryz.ntmps52
 go_wp2_with fail
 refine Zg (S:=NxS xb i be oe x n w) [(0,false),(1,false),(2,false),(3,false),(4,false),(5,false),(6,false),(7,false),(8,false),(9,false),(10,true),(11,true)] (by kernel_rfl) (by kernel_rfl) (λ_ _ _ _ _ h=>h) HS1.out (λhW'=>?_);simp only [Yl,List.filterMap_cons,List.filterMap_nil,List.getElem?_cons_zero,List.getElem?_cons_succ,Option.map_some];(repeat ((first | (refine Ze (v:=?_) (by rfl) ?_ ?_;rotate_left;(focus (intro W hW;obtain ⟨s0,s1,s2,s3,s4,s5⟩:=hW;go_simp;try with_reducible rfl))) | refine Zd (by rfl) ?_);simp only [Act.put,pA,pB,pC]))
 clear hW';refine Zc (λK hK=>?_);go_simp
 refine hK _ _ (HS0.out _) ?_;clear hK K;refine Zc (λK hK=>?_);go_simp
 refine hK _ _ (HS0.out _) ?_;clear hK K;refine Yj ?_;go_wp2_with fail
 refine HA.out.mono ?_;rintro r w1 ⟨hq1,hq2,ho1,hoW1⟩;have HO1:=Ld ho1;clear ho1 hoW1;cases q with
 | bad k=>
  have hr:=hq2 k rfl;subst hr;clear hq1 hq2;obtain rfl:q'=.bad k:=HQ.out;clear HQ;go_wp2_with fail
  exact ⟨rfl,Zh.bad HO1.out⟩
 | ok v=>
  obtain ⟨A,c,rfl,hv,hvi,-,hn1⟩:=hq1 v rfl;have HN1:=Ld hn1;have hs:=U3 x xb j n v A c w1 hn1.ev hn1.blk hv hvi HNS.out HOP.out;rw [show Yc x.es n v=q' from HQ.out.symm] at hs;have HS:=Ld hs;have c0:w1.cell? ⟨w.heap.size,0,none⟩=some (.int .i64 n.op):=hn1.nd.c0;have c1:w1.cell? ⟨w.heap.size,1,none⟩=some (.int .i64 n.n):=hn1.nd.c1;have c2:w1.cell? ⟨w.heap.size,2,none⟩=some (.string n.s):=hn1.nd.c2;have c3:w1.cell? ⟨w.heap.size,3,none⟩=some (.string n.t):=hn1.nd.c3;clear hn1 hq1 hq2 hv hvi hs HQ;go_wp2_with fail
  refine HS.out.mono ?_;rintro r w2 hr2;have hpost:=Zh.rs HN1.out hr2;obtain ⟨g1,g2,-⟩:=hr2;have HP:=Ld hpost;clear hpost;cases q' with
  | bad k=>
   have hr:=g2 k rfl;subst hr;clear g1 g2;go_wp2_with fail
   exact ⟨rfl,HP.out⟩
  | ok u=>
   obtain ⟨A2,c2',rfl,-⟩:=g1 u rfl;clear g1 g2;go_wp2_with fail
   go_ret
   exact HP.out
theorem Z13 (x:Evl)(n:Nd)(a:List Nd)(ha:Zs x a)(hex:Ex (.one false) a)(ho:n.op=21):Zs x (n :: a):=by
 intro i xb rest w hdr hx hB;have hn:x.e[i]? = some n:=by
  have:=congrArg (λl=>l[0]?) hdr;simpa [List.getElem?_drop] using this
 have hil:i < x.e.length:=(List.getElem?_eq_some_iff.1 hn).1;have hxb:=hB.lt;obtain ⟨be,oe,hea,hbe,hcs⟩:=hx.ex.at_ hil;obtain ⟨n0,n1,n2,n3⟩:=hcs i n hn;have hS0:NxS xb i be oe x n w w.drew:=⟨by rw [<-hea];exact hB.cell 8,hB.cell 9,n0,n1,n2,n3⟩;have hbw:be < w.heap.size:=Nat.lt_trans hbe hxb;have HS0:=Ld (hS0.alloc hxb hbw);have HS1:=Ld hS0;have hia:=Vc be oe x.e.length x.eca i hil;have HDR:=Ld hdr;have hni:=Xq (n:=n) hx hB;have HNI:=Ld hni;have h9:w.cell? ⟨xb,9,none⟩=some (.int .i64 i):=hS0.s1;have hf9:w.frozen? ⟨xb,9,none⟩=false:=hB.frozen 9;have hi1:IntKind.wrap .i64 ((i:Int)+1)=(i:Int)+1:=by
  have:=hx.el;exact IntWalk.i64_in _ (by omega)
 have hni0:=hni.drew;have hdr1:x.e.drop (i+1)=a++rest:=by
  have:=congrArg List.tail hdr;simpa [List.tail_drop] using this
 have hns:n.s.size<=140737488351232:=(hx.ek n (mG hn)).1;clear hcs n0 n1 n2 n3 hea hn hx hB hdr hS0 hni HDR;have t1:(n.op==1)=false:=by simp [ho]
 have t2:(n.op==2)=false:=by simp [ho]
 have t3:(n.op==3)=false:=by simp [ho]
 have t4:(n.op==4)=false:=by simp [ho]
 have t8:(n.op==8)=false:=by simp [ho]
 have t11:(n.op==11)=false:=by simp [ho]
 have t12:(n.op==12)=false:=by simp [ho]
 have t13:(n.op==13)=false:=by simp [ho]
 have t5:(n.op==5)=false:=by simp [ho]
 have t6:(n.op==6)=false:=by simp [ho]
 have t9:(n.op==9)=false:=by simp [ho]
 have t10:(n.op==10)=false:=by simp [ho]
 have t21:(n.op==21)=true:=by simp [ho]
 have t22:(n.op==22)=false:=by simp [ho]
 have t23:(n.op==23)=false:=by simp [ho]
 have t24:(n.op==24)=false:=by simp [ho]
 have hcall:=hni0.next hxb ha hex (rest:=rest) hdr1;unfold nw at hcall;have HA:=Ld hcall;have hlen:i+(n :: a).length=i+1+a.length:=by simp;omega
 rw [hlen,Zbn x.es x.q (by omega) hex];have ho':n.op=9\/n.op=10\/n.op=21\/n.op=22\/n.op=23\/n.op=24:=by omega
 have HOP:=Ld ho';have HNS:=Ld hns;generalize i+1+a.length=j at HA ⊢;generalize evX x.es x.q a=q at HA ⊢;obtain ⟨q',hq'⟩:∃q',q'=q.bind (λv=>Yc x.es n v):=⟨_,rfl⟩;rw [<-hq'];have HQ:=Ld hq';clear hcall hni0 hdr1 ha hex ho ho' hlen hns hq';go_enter Tryz.func52,Tryz.ntmps52
 go_wp2_with fail
 refine Zg (S:=NxS xb i be oe x n w) [(0,false),(1,false),(2,false),(3,false),(4,false),(5,false),(6,false),(7,false),(8,false),(9,false),(10,true),(11,true)] (by kernel_rfl) (by kernel_rfl) (λ_ _ _ _ _ h=>h) HS1.out (λhW'=>?_);simp only [Yl,List.filterMap_cons,List.filterMap_nil,List.getElem?_cons_zero,List.getElem?_cons_succ,Option.map_some];(repeat ((first | (refine Ze (v:=?_) (by rfl) ?_ ?_;rotate_left;(focus (intro W hW;obtain ⟨s0,s1,s2,s3,s4,s5⟩:=hW;go_simp;try with_reducible rfl))) | refine Zd (by rfl) ?_);simp only [Act.put,pA,pB,pC]))
 clear hW';refine Zc (λK hK=>?_);go_simp
 refine hK _ _ (HS0.out _) ?_;clear hK K;refine Zc (λK hK=>?_);go_simp
 refine hK _ _ (HS0.out _) ?_;clear hK K;refine Yj ?_;go_wp2_with fail
 refine HA.out.mono ?_;rintro r w1 ⟨hq1,hq2,ho1,hoW1⟩;have HO1:=Ld ho1;clear ho1 hoW1;cases q with
 | bad k=>
  have hr:=hq2 k rfl;subst hr;clear hq1 hq2;obtain rfl:q'=.bad k:=HQ.out;clear HQ;go_wp2_with fail
  exact ⟨rfl,Zh.bad HO1.out⟩
 | ok v=>
  obtain ⟨A,c,rfl,hv,hvi,-,hn1⟩:=hq1 v rfl;have HN1:=Ld hn1;have hs:=U3 x xb j n v A c w1 hn1.ev hn1.blk hv hvi HNS.out HOP.out;rw [show Yc x.es n v=q' from HQ.out.symm] at hs;have HS:=Ld hs;have c0:w1.cell? ⟨w.heap.size,0,none⟩=some (.int .i64 n.op):=hn1.nd.c0;have c1:w1.cell? ⟨w.heap.size,1,none⟩=some (.int .i64 n.n):=hn1.nd.c1;have c2:w1.cell? ⟨w.heap.size,2,none⟩=some (.string n.s):=hn1.nd.c2;have c3:w1.cell? ⟨w.heap.size,3,none⟩=some (.string n.t):=hn1.nd.c3;clear hn1 hq1 hq2 hv hvi hs HQ;go_wp2_with fail
  refine HS.out.mono ?_;rintro r w2 hr2;have hpost:=Zh.rs HN1.out hr2;obtain ⟨g1,g2,-⟩:=hr2;have HP:=Ld hpost;clear hpost;cases q' with
  | bad k=>
   have hr:=g2 k rfl;subst hr;clear g1 g2;go_wp2_with fail
   exact ⟨rfl,HP.out⟩
  | ok u=>
   obtain ⟨A2,c2',rfl,-⟩:=g1 u rfl;clear g1 g2;go_wp2_with fail
   go_ret
   exact HP.out
theorem Z0y (x:Evl)(n:Nd)(a:List Nd)(ha:Zs x a)(hex:Ex (.one false) a)(ho:n.op=22):Zs x (n :: a):=by
 intro i xb rest w hdr hx hB;have hn:x.e[i]? = some n:=by
  have:=congrArg (λl=>l[0]?) hdr;simpa [List.getElem?_drop] using this
 have hil:i < x.e.length:=(List.getElem?_eq_some_iff.1 hn).1;have hxb:=hB.lt;obtain ⟨be,oe,hea,hbe,hcs⟩:=hx.ex.at_ hil;obtain ⟨n0,n1,n2,n3⟩:=hcs i n hn;have hS0:NxS xb i be oe x n w w.drew:=⟨by rw [<-hea];exact hB.cell 8,hB.cell 9,n0,n1,n2,n3⟩;have hbw:be < w.heap.size:=Nat.lt_trans hbe hxb;have HS0:=Ld (hS0.alloc hxb hbw);have HS1:=Ld hS0;have hia:=Vc be oe x.e.length x.eca i hil;have HDR:=Ld hdr;have hni:=Xq (n:=n) hx hB;have HNI:=Ld hni;have h9:w.cell? ⟨xb,9,none⟩=some (.int .i64 i):=hS0.s1;have hf9:w.frozen? ⟨xb,9,none⟩=false:=hB.frozen 9;have hi1:IntKind.wrap .i64 ((i:Int)+1)=(i:Int)+1:=by
  have:=hx.el;exact IntWalk.i64_in _ (by omega)
 have hni0:=hni.drew;have hdr1:x.e.drop (i+1)=a++rest:=by
  have:=congrArg List.tail hdr;simpa [List.tail_drop] using this
 have hns:n.s.size<=140737488351232:=(hx.ek n (mG hn)).1;clear hcs n0 n1 n2 n3 hea hn hx hB hdr hS0 hni HDR;have t1:(n.op==1)=false:=by simp [ho]
 have t2:(n.op==2)=false:=by simp [ho]
 have t3:(n.op==3)=false:=by simp [ho]
 have t4:(n.op==4)=false:=by simp [ho]
 have t8:(n.op==8)=false:=by simp [ho]
 have t11:(n.op==11)=false:=by simp [ho]
 have t12:(n.op==12)=false:=by simp [ho]
 have t13:(n.op==13)=false:=by simp [ho]
 have t5:(n.op==5)=false:=by simp [ho]
 have t6:(n.op==6)=false:=by simp [ho]
 have t9:(n.op==9)=false:=by simp [ho]
 have t10:(n.op==10)=false:=by simp [ho]
 have t21:(n.op==21)=false:=by simp [ho]
 have t22:(n.op==22)=true:=by simp [ho]
 have t23:(n.op==23)=false:=by simp [ho]
 have t24:(n.op==24)=false:=by simp [ho]
 have hcall:=hni0.next hxb ha hex (rest:=rest) hdr1;unfold nw at hcall;have HA:=Ld hcall;have hlen:i+(n :: a).length=i+1+a.length:=by simp;omega
 rw [hlen,Zbn x.es x.q (by omega) hex];have ho':n.op=9\/n.op=10\/n.op=21\/n.op=22\/n.op=23\/n.op=24:=by omega
 have HOP:=Ld ho';have HNS:=Ld hns;generalize i+1+a.length=j at HA ⊢;generalize evX x.es x.q a=q at HA ⊢;obtain ⟨q',hq'⟩:∃q',q'=q.bind (λv=>Yc x.es n v):=⟨_,rfl⟩;rw [<-hq'];have HQ:=Ld hq';clear hcall hni0 hdr1 ha hex ho ho' hlen hns hq';go_enter Tryz.func52,Tryz.ntmps52
 go_wp2_with fail
 refine Zg (S:=NxS xb i be oe x n w) [(0,false),(1,false),(2,false),(3,false),(4,false),(5,false),(6,false),(7,false),(8,false),(9,false),(10,true),(11,true)] (by kernel_rfl) (by kernel_rfl) (λ_ _ _ _ _ h=>h) HS1.out (λhW'=>?_);simp only [Yl,List.filterMap_cons,List.filterMap_nil,List.getElem?_cons_zero,List.getElem?_cons_succ,Option.map_some];(repeat ((first | (refine Ze (v:=?_) (by rfl) ?_ ?_;rotate_left;(focus (intro W hW;obtain ⟨s0,s1,s2,s3,s4,s5⟩:=hW;go_simp;try with_reducible rfl))) | refine Zd (by rfl) ?_);simp only [Act.put,pA,pB,pC]))
 clear hW';refine Zc (λK hK=>?_);go_simp
 refine hK _ _ (HS0.out _) ?_;clear hK K;refine Zc (λK hK=>?_);go_simp
 refine hK _ _ (HS0.out _) ?_;clear hK K;refine Yj ?_;go_wp2_with fail
 refine HA.out.mono ?_;rintro r w1 ⟨hq1,hq2,ho1,hoW1⟩;have HO1:=Ld ho1;clear ho1 hoW1;cases q with
 | bad k=>
  have hr:=hq2 k rfl;subst hr;clear hq1 hq2;obtain rfl:q'=.bad k:=HQ.out;clear HQ;go_wp2_with fail
  exact ⟨rfl,Zh.bad HO1.out⟩
 | ok v=>
  obtain ⟨A,c,rfl,hv,hvi,-,hn1⟩:=hq1 v rfl;have HN1:=Ld hn1;have hs:=U3 x xb j n v A c w1 hn1.ev hn1.blk hv hvi HNS.out HOP.out;rw [show Yc x.es n v=q' from HQ.out.symm] at hs;have HS:=Ld hs;have c0:w1.cell? ⟨w.heap.size,0,none⟩=some (.int .i64 n.op):=hn1.nd.c0;have c1:w1.cell? ⟨w.heap.size,1,none⟩=some (.int .i64 n.n):=hn1.nd.c1;have c2:w1.cell? ⟨w.heap.size,2,none⟩=some (.string n.s):=hn1.nd.c2;have c3:w1.cell? ⟨w.heap.size,3,none⟩=some (.string n.t):=hn1.nd.c3;clear hn1 hq1 hq2 hv hvi hs HQ;go_wp2_with fail
  refine HS.out.mono ?_;rintro r w2 hr2;have hpost:=Zh.rs HN1.out hr2;obtain ⟨g1,g2,-⟩:=hr2;have HP:=Ld hpost;clear hpost;cases q' with
  | bad k=>
   have hr:=g2 k rfl;subst hr;clear g1 g2;go_wp2_with fail
   exact ⟨rfl,HP.out⟩
  | ok u=>
   obtain ⟨A2,c2',rfl,-⟩:=g1 u rfl;clear g1 g2;go_wp2_with fail
   go_ret
   exact HP.out
theorem Z2y (x:Evl)(n:Nd)(a:List Nd)(ha:Zs x a)(hex:Ex (.one false) a)(ho:n.op=23):Zs x (n :: a):=by
 intro i xb rest w hdr hx hB;have hn:x.e[i]? = some n:=by
  have:=congrArg (λl=>l[0]?) hdr;simpa [List.getElem?_drop] using this
 have hil:i < x.e.length:=(List.getElem?_eq_some_iff.1 hn).1;have hxb:=hB.lt;obtain ⟨be,oe,hea,hbe,hcs⟩:=hx.ex.at_ hil;obtain ⟨n0,n1,n2,n3⟩:=hcs i n hn;have hS0:NxS xb i be oe x n w w.drew:=⟨by rw [<-hea];exact hB.cell 8,hB.cell 9,n0,n1,n2,n3⟩;have hbw:be < w.heap.size:=Nat.lt_trans hbe hxb;have HS0:=Ld (hS0.alloc hxb hbw);have HS1:=Ld hS0;have hia:=Vc be oe x.e.length x.eca i hil;have HDR:=Ld hdr;have hni:=Xq (n:=n) hx hB;have HNI:=Ld hni;have h9:w.cell? ⟨xb,9,none⟩=some (.int .i64 i):=hS0.s1;have hf9:w.frozen? ⟨xb,9,none⟩=false:=hB.frozen 9;have hi1:IntKind.wrap .i64 ((i:Int)+1)=(i:Int)+1:=by
  have:=hx.el;exact IntWalk.i64_in _ (by omega)
 have hni0:=hni.drew;have hdr1:x.e.drop (i+1)=a++rest:=by
  have:=congrArg List.tail hdr;simpa [List.tail_drop] using this
 have hns:n.s.size<=140737488351232:=(hx.ek n (mG hn)).1;clear hcs n0 n1 n2 n3 hea hn hx hB hdr hS0 hni HDR;have t1:(n.op==1)=false:=by simp [ho]
 have t2:(n.op==2)=false:=by simp [ho]
 have t3:(n.op==3)=false:=by simp [ho]
 have t4:(n.op==4)=false:=by simp [ho]
 have t8:(n.op==8)=false:=by simp [ho]
 have t11:(n.op==11)=false:=by simp [ho]
 have t12:(n.op==12)=false:=by simp [ho]
 have t13:(n.op==13)=false:=by simp [ho]
 have t5:(n.op==5)=false:=by simp [ho]
 have t6:(n.op==6)=false:=by simp [ho]
 have t9:(n.op==9)=false:=by simp [ho]
 have t10:(n.op==10)=false:=by simp [ho]
 have t21:(n.op==21)=false:=by simp [ho]
 have t22:(n.op==22)=false:=by simp [ho]
 have t23:(n.op==23)=true:=by simp [ho]
 have t24:(n.op==24)=false:=by simp [ho]
 have hcall:=hni0.next hxb ha hex (rest:=rest) hdr1;unfold nw at hcall;have HA:=Ld hcall;have hlen:i+(n :: a).length=i+1+a.length:=by simp;omega
 rw [hlen,Zbn x.es x.q (by omega) hex];have ho':n.op=9\/n.op=10\/n.op=21\/n.op=22\/n.op=23\/n.op=24:=by omega
 have HOP:=Ld ho';have HNS:=Ld hns;generalize i+1+a.length=j at HA ⊢;generalize evX x.es x.q a=q at HA ⊢;obtain ⟨q',hq'⟩:∃q',q'=q.bind (λv=>Yc x.es n v):=⟨_,rfl⟩;rw [<-hq'];have HQ:=Ld hq';clear hcall hni0 hdr1 ha hex ho ho' hlen hns hq';go_enter Tryz.func52,Tryz.ntmps52
 go_wp2_with fail
 refine Zg (S:=NxS xb i be oe x n w) [(0,false),(1,false),(2,false),(3,false),(4,false),(5,false),(6,false),(7,false),(8,false),(9,false),(10,true),(11,true)] (by kernel_rfl) (by kernel_rfl) (λ_ _ _ _ _ h=>h) HS1.out (λhW'=>?_);simp only [Yl,List.filterMap_cons,List.filterMap_nil,List.getElem?_cons_zero,List.getElem?_cons_succ,Option.map_some];(repeat ((first | (refine Ze (v:=?_) (by rfl) ?_ ?_;rotate_left;(focus (intro W hW;obtain ⟨s0,s1,s2,s3,s4,s5⟩:=hW;go_simp;try with_reducible rfl))) | refine Zd (by rfl) ?_);simp only [Act.put,pA,pB,pC]))
 clear hW';refine Zc (λK hK=>?_);go_simp
 refine hK _ _ (HS0.out _) ?_;clear hK K;refine Zc (λK hK=>?_);go_simp
 refine hK _ _ (HS0.out _) ?_;clear hK K;refine Yj ?_;go_wp2_with fail
 refine HA.out.mono ?_;rintro r w1 ⟨hq1,hq2,ho1,hoW1⟩;have HO1:=Ld ho1;clear ho1 hoW1;cases q with
 | bad k=>
  have hr:=hq2 k rfl;subst hr;clear hq1 hq2;obtain rfl:q'=.bad k:=HQ.out;clear HQ;go_wp2_with fail
  exact ⟨rfl,Zh.bad HO1.out⟩
 | ok v=>
  obtain ⟨A,c,rfl,hv,hvi,-,hn1⟩:=hq1 v rfl;have HN1:=Ld hn1;have hs:=U3 x xb j n v A c w1 hn1.ev hn1.blk hv hvi HNS.out HOP.out;rw [show Yc x.es n v=q' from HQ.out.symm] at hs;have HS:=Ld hs;have c0:w1.cell? ⟨w.heap.size,0,none⟩=some (.int .i64 n.op):=hn1.nd.c0;have c1:w1.cell? ⟨w.heap.size,1,none⟩=some (.int .i64 n.n):=hn1.nd.c1;have c2:w1.cell? ⟨w.heap.size,2,none⟩=some (.string n.s):=hn1.nd.c2;have c3:w1.cell? ⟨w.heap.size,3,none⟩=some (.string n.t):=hn1.nd.c3;clear hn1 hq1 hq2 hv hvi hs HQ;go_wp2_with fail
  refine HS.out.mono ?_;rintro r w2 hr2;have hpost:=Zh.rs HN1.out hr2;obtain ⟨g1,g2,-⟩:=hr2;have HP:=Ld hpost;clear hpost;cases q' with
  | bad k=>
   have hr:=g2 k rfl;subst hr;clear g1 g2;go_wp2_with fail
   exact ⟨rfl,HP.out⟩
  | ok u=>
   obtain ⟨A2,c2',rfl,-⟩:=g1 u rfl;clear g1 g2;go_wp2_with fail
   go_ret
   exact HP.out
theorem Z24 (x:Evl)(n:Nd)(a:List Nd)(ha:Zs x a)(hex:Ex (.one false) a)(ho:n.op=24):Zs x (n :: a):=by
 intro i xb rest w hdr hx hB;have hn:x.e[i]? = some n:=by
  have:=congrArg (λl=>l[0]?) hdr;simpa [List.getElem?_drop] using this
 have hil:i < x.e.length:=(List.getElem?_eq_some_iff.1 hn).1;have hxb:=hB.lt;obtain ⟨be,oe,hea,hbe,hcs⟩:=hx.ex.at_ hil;obtain ⟨n0,n1,n2,n3⟩:=hcs i n hn;have hS0:NxS xb i be oe x n w w.drew:=⟨by rw [<-hea];exact hB.cell 8,hB.cell 9,n0,n1,n2,n3⟩;have hbw:be < w.heap.size:=Nat.lt_trans hbe hxb;have HS0:=Ld (hS0.alloc hxb hbw);have HS1:=Ld hS0;have hia:=Vc be oe x.e.length x.eca i hil;have HDR:=Ld hdr;have hni:=Xq (n:=n) hx hB;have HNI:=Ld hni;have h9:w.cell? ⟨xb,9,none⟩=some (.int .i64 i):=hS0.s1;have hf9:w.frozen? ⟨xb,9,none⟩=false:=hB.frozen 9;have hi1:IntKind.wrap .i64 ((i:Int)+1)=(i:Int)+1:=by
  have:=hx.el;exact IntWalk.i64_in _ (by omega)
 have hni0:=hni.drew;have hdr1:x.e.drop (i+1)=a++rest:=by
  have:=congrArg List.tail hdr;simpa [List.tail_drop] using this
 have hns:n.s.size<=140737488351232:=(hx.ek n (mG hn)).1;clear hcs n0 n1 n2 n3 hea hn hx hB hdr hS0 hni HDR;have t1:(n.op==1)=false:=by simp [ho]
 have t2:(n.op==2)=false:=by simp [ho]
 have t3:(n.op==3)=false:=by simp [ho]
 have t4:(n.op==4)=false:=by simp [ho]
 have t8:(n.op==8)=false:=by simp [ho]
 have t11:(n.op==11)=false:=by simp [ho]
 have t12:(n.op==12)=false:=by simp [ho]
 have t13:(n.op==13)=false:=by simp [ho]
 have t5:(n.op==5)=false:=by simp [ho]
 have t6:(n.op==6)=false:=by simp [ho]
 have t9:(n.op==9)=false:=by simp [ho]
 have t10:(n.op==10)=false:=by simp [ho]
 have t21:(n.op==21)=false:=by simp [ho]
 have t22:(n.op==22)=false:=by simp [ho]
 have t23:(n.op==23)=false:=by simp [ho]
 have t24:(n.op==24)=true:=by simp [ho]
 have hcall:=hni0.next hxb ha hex (rest:=rest) hdr1;unfold nw at hcall;have HA:=Ld hcall;have hlen:i+(n :: a).length=i+1+a.length:=by simp;omega
 rw [hlen,Zbn x.es x.q (by omega) hex];have ho':n.op=9\/n.op=10\/n.op=21\/n.op=22\/n.op=23\/n.op=24:=by omega
 have HOP:=Ld ho';have HNS:=Ld hns;generalize i+1+a.length=j at HA ⊢;generalize evX x.es x.q a=q at HA ⊢;obtain ⟨q',hq'⟩:∃q',q'=q.bind (λv=>Yc x.es n v):=⟨_,rfl⟩;rw [<-hq'];have HQ:=Ld hq';clear hcall hni0 hdr1 ha hex ho ho' hlen hns hq';go_enter Tryz.func52,Tryz.ntmps52
 go_wp2_with fail
 refine Zg (S:=NxS xb i be oe x n w) [(0,false),(1,false),(2,false),(3,false),(4,false),(5,false),(6,false),(7,false),(8,false),(9,false),(10,true),(11,true)] (by kernel_rfl) (by kernel_rfl) (λ_ _ _ _ _ h=>h) HS1.out (λhW'=>?_);simp only [Yl,List.filterMap_cons,List.filterMap_nil,List.getElem?_cons_zero,List.getElem?_cons_succ,Option.map_some];(repeat ((first | (refine Ze (v:=?_) (by rfl) ?_ ?_;rotate_left;(focus (intro W hW;obtain ⟨s0,s1,s2,s3,s4,s5⟩:=hW;go_simp;try with_reducible rfl))) | refine Zd (by rfl) ?_);simp only [Act.put,pA,pB,pC]))
 clear hW';refine Zc (λK hK=>?_);go_simp
 refine hK _ _ (HS0.out _) ?_;clear hK K;refine Zc (λK hK=>?_);go_simp
 refine hK _ _ (HS0.out _) ?_;clear hK K;refine Yj ?_;go_wp2_with fail
 refine HA.out.mono ?_;rintro r w1 ⟨hq1,hq2,ho1,hoW1⟩;have HO1:=Ld ho1;clear ho1 hoW1;cases q with
 | bad k=>
  have hr:=hq2 k rfl;subst hr;clear hq1 hq2;obtain rfl:q'=.bad k:=HQ.out;clear HQ;go_wp2_with fail
  exact ⟨rfl,Zh.bad HO1.out⟩
 | ok v=>
  obtain ⟨A,c,rfl,hv,hvi,-,hn1⟩:=hq1 v rfl;have HN1:=Ld hn1;have hs:=U3 x xb j n v A c w1 hn1.ev hn1.blk hv hvi HNS.out HOP.out;rw [show Yc x.es n v=q' from HQ.out.symm] at hs;have HS:=Ld hs;have c0:w1.cell? ⟨w.heap.size,0,none⟩=some (.int .i64 n.op):=hn1.nd.c0;have c1:w1.cell? ⟨w.heap.size,1,none⟩=some (.int .i64 n.n):=hn1.nd.c1;have c2:w1.cell? ⟨w.heap.size,2,none⟩=some (.string n.s):=hn1.nd.c2;have c3:w1.cell? ⟨w.heap.size,3,none⟩=some (.string n.t):=hn1.nd.c3;clear hn1 hq1 hq2 hv hvi hs HQ;go_wp2_with fail
  refine HS.out.mono ?_;rintro r w2 hr2;have hpost:=Zh.rs HN1.out hr2;obtain ⟨g1,g2,-⟩:=hr2;have HP:=Ld hpost;clear hpost;cases q' with
  | bad k=>
   have hr:=g2 k rfl;subst hr;clear g1 g2;go_wp2_with fail
   exact ⟨rfl,HP.out⟩
  | ok u=>
   obtain ⟨A2,c2',rfl,-⟩:=g1 u rfl;clear g1 g2;go_wp2_with fail
   go_ret
   exact HP.out
theorem Uu (x:Evl)(n:Nd)(a b:List Nd)(ha:Zs x a)(hb:Zs x b)(hex:Ex (.one false) a)(hexb:Ex (.one false) b)(ho:n.op=14\/n.op=15\/n.op=16\/n.op=17\/n.op=18\/n.op=19\/n.op=20\/n.op=25\/n.op=26\/n.op=27):Zs x (n :: (a++b)):=by
 intro i xb rest w hdr hx hB;have hn:x.e[i]? = some n:=by
  have:=congrArg (λl=>l[0]?) hdr;simpa [List.getElem?_drop] using this
 have hil:i < x.e.length:=(List.getElem?_eq_some_iff.1 hn).1;have hxb:=hB.lt;obtain ⟨be,oe,hea,hbe,hcs⟩:=hx.ex.at_ hil;obtain ⟨n0,n1,n2,n3⟩:=hcs i n hn;have hS0:NxS xb i be oe x n w w.drew:=⟨by rw [<-hea];exact hB.cell 8,hB.cell 9,n0,n1,n2,n3⟩;have hbw:be < w.heap.size:=Nat.lt_trans hbe hxb;have HS0:=Ld (hS0.alloc hxb hbw);have HS1:=Ld hS0;have hia:=Vc be oe x.e.length x.eca i hil;have HDR:=Ld hdr;have hni:=Xq (n:=n) hx hB;have HNI:=Ld hni;have h9:w.cell? ⟨xb,9,none⟩=some (.int .i64 i):=hS0.s1;have hf9:w.frozen? ⟨xb,9,none⟩=false:=hB.frozen 9;have hi1:IntKind.wrap .i64 ((i:Int)+1)=(i:Int)+1:=by
  have:=hx.el;exact IntWalk.i64_in _ (by omega)
 have hni0:=hni.drew;have hdr1:x.e.drop (i+1)=(a++b)++rest:=by
  have:=congrArg List.tail hdr;simpa [List.tail_drop] using this
 have hns:n.s.size<=140737488351232:=(hx.ek n (mG hn)).1;clear hcs n0 n1 n2 n3 hea hn hx hB hdr hS0 hni HDR;have t1:(n.op==1)=false:=by simp;omega
 have t2:(n.op==2)=false:=by simp;omega
 have t3:(n.op==3)=false:=by simp;omega
 have t4:(n.op==4)=false:=by simp;omega
 have t8:(n.op==8)=false:=by simp;omega
 have t11:(n.op==11)=false:=by simp;omega
 have t12:(n.op==12)=false:=by simp;omega
 have t13:(n.op==13)=false:=by simp;omega
 have t5:(n.op==5)=false:=by simp;omega
 have t6:(n.op==6)=false:=by simp;omega
 have t9:(n.op==9)=false:=by simp;omega
 have t10:(n.op==10)=false:=by simp;omega
 have t21:(n.op==21)=false:=by simp;omega
 have t22:(n.op==22)=false:=by simp;omega
 have t23:(n.op==23)=false:=by simp;omega
 have t24:(n.op==24)=false:=by simp;omega
 have hdr2:x.e.drop (i+1+a.length)=b++rest:=by
  rw [<-List.drop_drop,hdr1];simp
 have hcall:=hni0.next hxb ha hex (rest:=b++rest) (by rw [hdr1];simp);unfold nw at hcall;have HA:=Ld hcall;have hlen:i+(n :: (a++b)).length=i+1+a.length+b.length:=by simp;omega
 rw [hlen,Zta x.es x.q (by omega) hex hexb];have ho':n.op=14\/n.op=15\/n.op=16\/n.op=17\/n.op=18\/n.op=19\/n.op=20\/n.op=25\/n.op=26\/n.op=27:=by omega
 have HOP:=Ld ho';have hB2:∀W:World,NxI x xb (i+1+a.length) n w W->Calls Tryz.prog 52 #[.pointer (some ⟨xb,0,none⟩)] W (NxA x xb (i+1+a.length+b.length) n (evX x.es x.q b) w W):=λW h=>h.next hxb hb hexb hdr2;have HB2:=Ld hB2;generalize i+1+a.length+b.length=j2 at HB2 ⊢;generalize i+1+a.length=j at HA HB2;generalize evX x.es x.q a=q at HA ⊢;generalize evX x.es x.q b=qb at HB2 ⊢;obtain ⟨q',hq'⟩:∃q',q'=q.bind (λu=>qb.bind λv=>Yn x.es n.op u v):=⟨_,rfl⟩;rw [<-hq'];have HQ:=Ld hq';clear hcall hni0 hdr1 hdr2 ha hex hb hexb hB2 ho ho' hlen hns hq';go_enter Tryz.func52,Tryz.ntmps52
 go_wp2_with fail
 refine Zg (S:=NxS xb i be oe x n w) [(0,false),(1,false),(2,false),(3,false),(4,false),(5,false),(6,false),(7,false),(8,false),(9,false),(10,true),(11,true)] (by kernel_rfl) (by kernel_rfl) (λ_ _ _ _ _ h=>h) HS1.out (λhW'=>?_);simp only [Yl,List.filterMap_cons,List.filterMap_nil,List.getElem?_cons_zero,List.getElem?_cons_succ,Option.map_some];(repeat ((first | (refine Ze (v:=?_) (by rfl) ?_ ?_;rotate_left;(focus (intro W hW;obtain ⟨s0,s1,s2,s3,s4,s5⟩:=hW;go_simp;try with_reducible rfl))) | refine Zd (by rfl) ?_);simp only [Act.put,pA,pB,pC]))
 clear hW';refine Zc (λK hK=>?_);go_simp
 refine hK _ _ (HS0.out _) ?_;clear hK K;refine Zc (λK hK=>?_);go_simp
 refine hK _ _ (HS0.out _) ?_;clear hK K;refine Yj ?_;go_wp2_with fail
 refine HA.out.mono ?_;rintro r w1 ⟨hq1,hq2,ho1,hoW1⟩;have HO1:=Ld ho1;clear ho1 hoW1;cases q with
 | bad k=>
  have hr:=hq2 k rfl;subst hr;clear hq1 hq2;obtain rfl:q'=.bad k:=HQ.out;clear HQ;go_wp2_with fail
  exact ⟨rfl,Zh.bad HO1.out⟩
 | ok v=>
  obtain ⟨A,c,rfl,hv,hvi,hoff,hn1⟩:=hq1 v rfl;have HN1:=Ld hn1.drew;have HV:=Ld hv;have HVI:=Ld hvi;have HOF:=Ld hoff;have hS:OpS w.heap.size n.op w1.drew:=⟨hn1.nd.c0⟩;have HS:=Ld hS;have c0:w1.cell? ⟨w.heap.size,0,none⟩=some (.int .i64 n.op):=hn1.nd.c0;clear hS hoff hn1 hq1 hq2 hv hvi;go_wp2_with fail
  refine Zg (S:=OpS w.heap.size n.op) [(0,false),(1,false),(2,false),(3,false),(4,false),(5,true),(6,true),(7,false)] (by kernel_rfl) (by kernel_rfl) (λ_ _ _ _ _ h=>h) HS.out (λhW'=>?_);clear hW';simp only [Yl,List.filterMap_cons,List.filterMap_nil,List.getElem?_cons_zero,List.getElem?_cons_succ,Option.map_some];(repeat ((first | (refine Ze (v:=?_) (by rfl) ?_ ?_;rotate_left;(focus (intro W hW;obtain ⟨s0⟩:=hW;go_simp;try with_reducible rfl))) | refine Zd (by rfl) ?_);simp only [Act.put,pA,pB,pC]))
  refine Zc (λK hK=>?_);go_simp
  refine (HB2.out _ HN1.out).mono ?_;rintro r w2 ⟨hp1,hp2,ho2,hoW2⟩;have HO2:=Ld ho2;cases qb with
  | bad k=>
   have hr:=hp2 k rfl;subst hr;dsimp only;clear hK K hp1 hp2;obtain rfl:q'=.bad k:=HQ.out;clear HQ;go_wp2_with fail
   exact ⟨rfl,Zh.bad HO2.out⟩
  | ok u=>
   obtain ⟨A2,c2',rfl,hu,hui,-,hn2⟩:=hp1 u rfl;have HN2:=Ld hn2;have hof2:Xu (gx xb w) w2 w2.heap.size A v:=HOF.out.past (w':=w2) (⟨hoW2.os,hoW2.tape,hoW2.output,hoW2.size,hoW2.block⟩:Yk w1.heap.size xb w1 w2) (nL _) hxb;have hv2:Yr v A c w2:=⟨HV.out.ok,HV.out.nd,HV.out.le,HV.out.max,hof2.sl⟩;have hs:=Zou x xb j2 n.op v u A A2 c c2' w2 hn2.ev hn2.blk hv2 hu HVI.out hui HOP.out;rw [show Yn x.es n.op v u=q' from HQ.out.symm] at hs;have HD:=Ld hs;refine hK _ _ ⟨hn2.nd.c0⟩ ?_;clear hK K hn2 hof2 hv2 hs hu hui hp1 hp2 ho2 hoW2 HQ;refine Zc (λK hK=>?_);go_simp
   refine HD.out.mono ?_;rintro r w3 hr2;have hpost:=Zh.rs HN2.out hr2;obtain ⟨g1,g2,g3⟩:=hr2;have hS3:OpS w.heap.size n.op w3:=⟨(g3.cell (HN2.out).sz).trans HN2.out.nd.c0⟩;have HP:=Ld hpost;clear hpost g3;cases q' with
   | bad k=>
    have hr:=g2 k rfl;subst hr;dsimp only;clear hK K g1 g2 hS3;go_wp2_with fail
    exact ⟨rfl,HP.out⟩
   | ok u=>
    obtain ⟨A3,c3',rfl,-⟩:=g1 u rfl;refine hK _ _ hS3 ?_;clear hK K g1 g2 hS3;(repeat ((first | (refine Ze (v:=?_) (by rfl) ?_ ?_;rotate_left;(focus (intro W hW;obtain ⟨s0⟩:=hW;go_simp;try with_reducible rfl))) | refine Zd (by rfl) ?_);simp only [Act.put,pA,pB,pC]))
    refine Yj ?_;go_wp2_with fail
    go_ret
    exact HP.out
theorem Z3j (x:Evl)(n:Nd)(a b:List Nd)(ha:Zs x a)(hb:Zs x b)(hex:Ex (.one false) a)(hexb:Ex (.one false) b)(ho:n.op=14):Zs x (n :: (a++b)):=Uu x n a b ha hb hex hexb (by omega)
theorem Z08 (x:Evl)(n:Nd)(a b:List Nd)(ha:Zs x a)(hb:Zs x b)(hex:Ex (.one false) a)(hexb:Ex (.one false) b)(ho:n.op=15):Zs x (n :: (a++b)):=Uu x n a b ha hb hex hexb (by omega)
theorem Z1l (x:Evl)(n:Nd)(a b:List Nd)(ha:Zs x a)(hb:Zs x b)(hex:Ex (.one false) a)(hexb:Ex (.one false) b)(ho:n.op=16):Zs x (n :: (a++b)):=Uu x n a b ha hb hex hexb (by omega)
theorem Z1m (x:Evl)(n:Nd)(a b:List Nd)(ha:Zs x a)(hb:Zs x b)(hex:Ex (.one false) a)(hexb:Ex (.one false) b)(ho:n.op=17):Zs x (n :: (a++b)):=Uu x n a b ha hb hex hexb (by omega)
theorem Z09 (x:Evl)(n:Nd)(a b:List Nd)(ha:Zs x a)(hb:Zs x b)(hex:Ex (.one false) a)(hexb:Ex (.one false) b)(ho:n.op=18):Zs x (n :: (a++b)):=Uu x n a b ha hb hex hexb (by omega)
theorem Z3l (x:Evl)(n:Nd)(a b:List Nd)(ha:Zs x a)(hb:Zs x b)(hex:Ex (.one false) a)(hexb:Ex (.one false) b)(ho:n.op=19):Zs x (n :: (a++b)):=Uu x n a b ha hb hex hexb (by omega)
theorem Z3c (x:Evl)(n:Nd)(a b:List Nd)(ha:Zs x a)(hb:Zs x b)(hex:Ex (.one false) a)(hexb:Ex (.one false) b)(ho:n.op=20):Zs x (n :: (a++b)):=Uu x n a b ha hb hex hexb (by omega)
theorem Z2j (x:Evl)(n:Nd)(a b:List Nd)(ha:Zs x a)(hb:Zs x b)(hex:Ex (.one false) a)(hexb:Ex (.one false) b)(ho:n.op=25):Zs x (n :: (a++b)):=Uu x n a b ha hb hex hexb (by omega)
theorem Z1q (x:Evl)(n:Nd)(a b:List Nd)(ha:Zs x a)(hb:Zs x b)(hex:Ex (.one false) a)(hexb:Ex (.one false) b)(ho:n.op=26):Zs x (n :: (a++b)):=Uu x n a b ha hb hex hexb (by omega)
theorem Z1y (x:Evl)(n:Nd)(a b:List Nd)(ha:Zs x a)(hb:Zs x b)(hex:Ex (.one false) a)(hexb:Ex (.one false) b)(ho:n.op=27):Zs x (n :: (a++b)):=Uu x n a b ha hb hex hexb (by omega)
structure SkS (xb:Nat)(v:Value)(W:World):Prop where
 s0:W.cell? ⟨xb,8,none⟩=some v
def Zgy (x:Evl):Prop:=∀y∈x.e,0<=Zl y/\Zl y<=200
theorem Zcy (x:Evl)(xb j:Nat)(p rest:List Nd)(w:World)(hf:Zgy x)(hex:Ex (.one false) p)(hd:x.e.drop j=p++rest)(hx:V0 x xb w)(hB:Blk w xb 99 (x.cells j)) :
 Calls Tryz.prog 109 #[.pointer (some ⟨xb,0,none⟩)] w λr w'=>r=.returned (.tuple #[])/\Blk w' xb 99 (x.cells (j+p.length))/\Yk w.heap.size xb w w':=by
 have hxb:=hB.lt;have hj:j<=x.e.length:=by
  obtain ⟨y,r,e,-⟩:=Jb hex;have:=congrArg List.length hd;rw [e] at this;simp at this;omega
 have hsk:=Zco x.e x.ea x.eca j (j+p.length) w.drew hx.el ((hx.drew).ex.more (Nat.le_of_lt hxb)) hf (by rw [hd];exact Z0h hex rest j) hj;have HSK:=Ld hsk;have HB:=Ld hB;have hS:SkS xb (.slice x.ea x.e.length x.eca) w.drew:=⟨hB.cell 8⟩;have HS:=Ld hS;have h9:w.cell? ⟨xb,9,none⟩=some (.int .i64 j):=hB.cell 9;clear hsk hx hex hd hS hf hj;go_enter Tryz.func109,Tryz.ntmps109
 go_wp2_with fail
 refine Zg (S:=SkS xb (.slice x.ea x.e.length x.eca)) [(0,false),(1,false),(2,false),(3,false),(4,false),(5,false),(6,false),(7,false),(8,true),(9,true),(10,false),(11,false),(12,true)] (by kernel_rfl) (by kernel_rfl) (λ_ _ _ _ _ h=>h) HS.out (λhW'=>?_);simp only [Yl,List.filterMap_cons,List.filterMap_nil,List.getElem?_cons_zero,List.getElem?_cons_succ,Option.map_some];(repeat ((first | (refine Ze (v:=?_) (by rfl) ?_ ?_;rotate_left;(focus (intro W hW;obtain ⟨s0⟩:=hW;go_simp;try with_reducible rfl))) | refine Zd (by rfl) ?_);simp only [Act.put,pA,pB,pC]))
 refine Zc (λK hK=>?_);go_simp
 refine hK _ _ HS.out ?_;clear hK K hW';refine Zc (λK hK=>?_);go_simp
 refine HSK.out.mono ?_;rintro r w1 ⟨rfl,hb1'⟩;have hb1:RowKit.Below w.heap.size w w1:=(RowKit.Below.refl w.heap.size w).drew.trans hb1';clear hb1';have hB1:Blk w1 xb 99 (x.cells j):=HB.out.below hb1 hxb;have hS1:SkS xb (.slice x.ea x.e.length x.eca) w1:=⟨hB1.cell 8⟩;have HB1:=Ld hB1;have f9:w1.frozen? ⟨xb,9,none⟩=false:=hB1.frozen 9;have c9:w1.cell? ⟨xb,9,none⟩=some (.int .i64 j):=hB1.cell 9;have HO1:=Ld (Yk.of_below (g:=xb) hb1 (nL _));refine hK _ _ hS1 ?_;clear hK K hS1 hB1 hb1;(repeat ((first | (refine Ze (v:=?_) (by rfl) ?_ ?_;rotate_left;(focus (intro W hW;obtain ⟨s0⟩:=hW;go_simp;try with_reducible rfl))) | refine Zd (by rfl) ?_);simp only [Act.put,pA,pB,pC]))
 refine Zc (λK hK=>?_);go_simp
 have hB2:Blk (w1.setCell ⟨xb,9,none⟩ (.int .i64 ((j:Int)+(p.length:Int)))) xb 99 (x.cells (j+p.length)):=by
  have:=HB1.out.set 9 (.int .i64 ((j:Int)+(p.length:Int)));exact this
 have HB2:=Ld hB2;have hS2:SkS xb (.slice x.ea x.e.length x.eca) (w1.setCell ⟨xb,9,none⟩ (.int .i64 ((j:Int)+(p.length:Int)))):=⟨hB2.cell 8⟩;have HOS:=Ld (HO1.out.setCell (p:=⟨xb,9,none⟩) (Or.inl rfl) (.int .i64 ((j:Int)+(p.length:Int))));refine hK _ _ hS2 ?_;clear hK K hS2 hB2;refine Yj ?_;go_wp2_with fail
 simp [bodyPost,results,Tryz.results109,go_sem];exact ⟨HB2.out,HOS.out⟩
def Zgn (xb:Nat)(q:Rs (List Nd))(w:World)(r:Ending)(w':World):Prop:=
 (∀v,q=.ok v->∃A c,r=.returned (.slice A v.length c)/\v.length<=c/\c<=9223372036854775807/\Xu (gx xb w) w' w'.heap.size A v)/\(∀k,q=.bad k->r=.panicked (noV k))/\RowKit.Below w.heap.size w w'
theorem Zgn.bad {xb:Nat}{k:Int}{w w':World}(h:RowKit.Below w.heap.size w w'):Zgn xb (.bad k) w (.panicked (noV k)) w':=⟨λv e=>(nomatch e),λk' e=>by injection e with e;subst e;rfl,h⟩
theorem Zgn.new {xb:Nat}{v:List Nd}{w w':World}{r:Ending}(_hx:xb < w.heap.size)(h:X3 w r w' v):Zgn xb (.ok v) w r w':=by
 obtain ⟨A,c,e,g1,g2,g3,g4,g5⟩:=h;have hof:Xu (gx xb w) w' w'.heap.size A v:=λhne=>by
  obtain ⟨b,o,e1,e2,e3⟩:=g3 hne;exact ⟨b,o,e1,e2,by have:=g5 b o e1;unfold gx;omega,e3⟩
 exact ⟨λu hu=>by injection hu with hu;subst hu;exact ⟨A,c,e,g1,g2,hof⟩,λk e=>(nomatch e),g4⟩
theorem Z1c (x:Evl)(xb j:Nat)(s:ByteArray)(w:World)(_hx:V0 x xb w)(hB:Blk w xb 99 (x.cells j))(e1:s.toList = [112,114,105,110,99,105,112,97,108]) :
 Calls Tryz.prog 85 #[.pointer (some ⟨xb,0,none⟩),.string s] w λr w'=>Zgn xb (.ok [eN x.q.who]) w r w':=by
 have hxb:=hB.lt;have c1:w.cell? ⟨xb,1,none⟩=some (.string x.q.who.ty):=hB.cell 1;have c2:w.cell? ⟨xb,2,none⟩=some (.string x.q.who.id):=hB.cell 2;have c3:w.cell? ⟨xb,3,none⟩=some (.string x.q.act.ty):=hB.cell 3;have c4:w.cell? ⟨xb,4,none⟩=some (.string x.q.act.id):=hB.cell 4;have c5:w.cell? ⟨xb,5,none⟩=some (.string x.q.what.ty):=hB.cell 5;have c6:w.cell? ⟨xb,6,none⟩=some (.string x.q.what.id):=hB.cell 6;have c7:w.cell? ⟨xb,7,none⟩=some (.slice x.qa x.q.ctx.length x.qc):=hB.cell 7;have t1:(s.toList == [112,114,105,110,99,105,112,97,108])=true:=by simpa using e1
 clear e1;clear _hx hB;generalize x.q.who=u at *;go_enter Tryz.func85,Tryz.ntmps85
 go_wp2_with fail
 refine (Zb4 u _).mono ?_;rintro r w1 hn;have HN:=Ld (Zgn.new hxb hn);obtain ⟨A1,d1,rfl,-⟩:=hn;go_wp2_with fail
 go_ret
 exact HN.out
theorem Z3s (x:Evl)(xb j:Nat)(s:ByteArray)(w:World)(_hx:V0 x xb w)(hB:Blk w xb 99 (x.cells j))(n1:¬s.toList = [112,114,105,110,99,105,112,97,108])(e2:s.toList = [97,99,116,105,111,110]) :
 Calls Tryz.prog 85 #[.pointer (some ⟨xb,0,none⟩),.string s] w λr w'=>Zgn xb (.ok [eN x.q.act]) w r w':=by
 have hxb:=hB.lt;have c1:w.cell? ⟨xb,1,none⟩=some (.string x.q.who.ty):=hB.cell 1;have c2:w.cell? ⟨xb,2,none⟩=some (.string x.q.who.id):=hB.cell 2;have c3:w.cell? ⟨xb,3,none⟩=some (.string x.q.act.ty):=hB.cell 3;have c4:w.cell? ⟨xb,4,none⟩=some (.string x.q.act.id):=hB.cell 4;have c5:w.cell? ⟨xb,5,none⟩=some (.string x.q.what.ty):=hB.cell 5;have c6:w.cell? ⟨xb,6,none⟩=some (.string x.q.what.id):=hB.cell 6;have c7:w.cell? ⟨xb,7,none⟩=some (.slice x.qa x.q.ctx.length x.qc):=hB.cell 7;have t1:(s.toList == [112,114,105,110,99,105,112,97,108])=false:=by simpa using n1
 have t2:(s.toList == [97,99,116,105,111,110])=true:=by simpa using e2
 clear n1 e2;clear _hx hB;generalize x.q.act=u at *;go_enter Tryz.func85,Tryz.ntmps85
 go_wp2_with fail
 refine (Zb4 u _).mono ?_;rintro r w1 hn;have HN:=Ld (Zgn.new hxb hn);obtain ⟨A1,d1,rfl,-⟩:=hn;go_wp2_with fail
 go_ret
 exact HN.out
theorem Z1h (x:Evl)(xb j:Nat)(s:ByteArray)(w:World)(_hx:V0 x xb w)(hB:Blk w xb 99 (x.cells j))(n1:¬s.toList = [112,114,105,110,99,105,112,97,108])(n2:¬s.toList = [97,99,116,105,111,110])(e3:s.toList = [114,101,115,111,117,114,99,101]) :
 Calls Tryz.prog 85 #[.pointer (some ⟨xb,0,none⟩),.string s] w λr w'=>Zgn xb (.ok [eN x.q.what]) w r w':=by
 have hxb:=hB.lt;have c1:w.cell? ⟨xb,1,none⟩=some (.string x.q.who.ty):=hB.cell 1;have c2:w.cell? ⟨xb,2,none⟩=some (.string x.q.who.id):=hB.cell 2;have c3:w.cell? ⟨xb,3,none⟩=some (.string x.q.act.ty):=hB.cell 3;have c4:w.cell? ⟨xb,4,none⟩=some (.string x.q.act.id):=hB.cell 4;have c5:w.cell? ⟨xb,5,none⟩=some (.string x.q.what.ty):=hB.cell 5;have c6:w.cell? ⟨xb,6,none⟩=some (.string x.q.what.id):=hB.cell 6;have c7:w.cell? ⟨xb,7,none⟩=some (.slice x.qa x.q.ctx.length x.qc):=hB.cell 7;have t1:(s.toList == [112,114,105,110,99,105,112,97,108])=false:=by simpa using n1
 have t2:(s.toList == [97,99,116,105,111,110])=false:=by simpa using n2
 have t3:(s.toList == [114,101,115,111,117,114,99,101])=true:=by simpa using e3
 clear n1 n2 e3;clear _hx hB;generalize x.q.what=u at *;go_enter Tryz.func85,Tryz.ntmps85
 go_wp2_with fail
 refine (Zb4 u _).mono ?_;rintro r w1 hn;have HN:=Ld (Zgn.new hxb hn);obtain ⟨A1,d1,rfl,-⟩:=hn;go_wp2_with fail
 go_ret
 exact HN.out
theorem Z06 (x:Evl)(xb j:Nat)(s:ByteArray)(w:World)(hx:V0 x xb w)(hB:Blk w xb 99 (x.cells j))(n1:¬s.toList = [112,114,105,110,99,105,112,97,108])(n2:¬s.toList = [97,99,116,105,111,110])(n3:¬s.toList = [114,101,115,111,117,114,99,101])(e4:s.toList = [99,111,110,116,101,120,116]) :
 Calls Tryz.prog 85 #[.pointer (some ⟨xb,0,none⟩),.string s] w λr w'=>Zgn xb (.ok x.q.ctx) w r w':=by
 have hxb:=hB.lt;have c1:w.cell? ⟨xb,1,none⟩=some (.string x.q.who.ty):=hB.cell 1;have c2:w.cell? ⟨xb,2,none⟩=some (.string x.q.who.id):=hB.cell 2;have c3:w.cell? ⟨xb,3,none⟩=some (.string x.q.act.ty):=hB.cell 3;have c4:w.cell? ⟨xb,4,none⟩=some (.string x.q.act.id):=hB.cell 4;have c5:w.cell? ⟨xb,5,none⟩=some (.string x.q.what.ty):=hB.cell 5;have c6:w.cell? ⟨xb,6,none⟩=some (.string x.q.what.id):=hB.cell 6;have c7:w.cell? ⟨xb,7,none⟩=some (.slice x.qa x.q.ctx.length x.qc):=hB.cell 7;have t1:(s.toList == [112,114,105,110,99,105,112,97,108])=false:=by simpa using n1
 have t2:(s.toList == [97,99,116,105,111,110])=false:=by simpa using n2
 have t3:(s.toList == [114,101,115,111,117,114,99,101])=false:=by simpa using n3
 have t4:(s.toList == [99,111,110,116,101,120,116])=true:=by simpa using e4
 clear n1 n2 n3 e4;have hP:Zgn xb (.ok x.q.ctx) w (.returned (.slice x.qa x.q.ctx.length x.qc)) w:=⟨λv e=>by injection e with e;subst e;exact ⟨x.qa,x.qc,rfl,hx.qc.1,hx.qc.2,hx.ctx.off (λb e=>e.1) (Nat.le_of_lt hxb)⟩,λk e=>(nomatch e),RowKit.Below.refl _ _⟩;have HP:=Ld hP;clear hx hB hP;go_enter Tryz.func85,Tryz.ntmps85
 go_wp2_with fail
 go_ret
 exact HP.out
theorem Z00 (x:Evl)(xb j:Nat)(s:ByteArray)(w:World)(_hx:V0 x xb w)(hB:Blk w xb 99 (x.cells j))(n1:¬s.toList = [112,114,105,110,99,105,112,97,108])(n2:¬s.toList = [97,99,116,105,111,110])(n3:¬s.toList = [114,101,115,111,117,114,99,101])(n4:¬s.toList = [99,111,110,116,101,120,116]) :
 Calls Tryz.prog 85 #[.pointer (some ⟨xb,0,none⟩),.string s] w λr w'=>Zgn xb (.bad 3) w r w':=by
 have hxb:=hB.lt;have c1:w.cell? ⟨xb,1,none⟩=some (.string x.q.who.ty):=hB.cell 1;have c2:w.cell? ⟨xb,2,none⟩=some (.string x.q.who.id):=hB.cell 2;have c3:w.cell? ⟨xb,3,none⟩=some (.string x.q.act.ty):=hB.cell 3;have c4:w.cell? ⟨xb,4,none⟩=some (.string x.q.act.id):=hB.cell 4;have c5:w.cell? ⟨xb,5,none⟩=some (.string x.q.what.ty):=hB.cell 5;have c6:w.cell? ⟨xb,6,none⟩=some (.string x.q.what.id):=hB.cell 6;have c7:w.cell? ⟨xb,7,none⟩=some (.slice x.qa x.q.ctx.length x.qc):=hB.cell 7;have t1:(s.toList == [112,114,105,110,99,105,112,97,108])=false:=by simpa using n1
 have t2:(s.toList == [97,99,116,105,111,110])=false:=by simpa using n2
 have t3:(s.toList == [114,101,115,111,117,114,99,101])=false:=by simpa using n3
 have t4:(s.toList == [99,111,110,116,101,120,116])=false:=by simpa using n4
 clear n1 n2 n3 n4;clear _hx hB;go_enter Tryz.func85,Tryz.ntmps85
 go_wp2_with fail
 exact ⟨rfl,Zgn.bad (RowKit.Below.refl _ _)⟩
theorem Zrm (x:Evl)(xb j:Nat)(s:ByteArray)(w:World)(hx:V0 x xb w)(hB:Blk w xb 99 (x.cells j)) :
 Calls Tryz.prog 85 #[.pointer (some ⟨xb,0,none⟩),.string s] w λr w'=>Zgn xb (Jf x.q s.toList) w r w':=by
 unfold Jf;by_cases h1:s.toList = [112,114,105,110,99,105,112,97,108]
 . rw [if_pos h1];exact Z1c x xb j s w hx hB h1
 rw [if_neg h1];by_cases h2:s.toList = [97,99,116,105,111,110]
 . rw [if_pos h2];exact Z3s x xb j s w hx hB h1 h2
 rw [if_neg h2];by_cases h3:s.toList = [114,101,115,111,117,114,99,101]
 . rw [if_pos h3];exact Z1h x xb j s w hx hB h1 h2 h3
 rw [if_neg h3];by_cases h4:s.toList = [99,111,110,116,101,120,116]
 . rw [if_pos h4];exact Z06 x xb j s w hx hB h1 h2 h3 h4
 rw [if_neg h4];exact Z00 x xb j s w hx hB h1 h2 h3 h4
theorem Zh.nam {x:Evl}{xb j:Nat}{n:Nd}{q:Rs (List Nd)}{w W w':World}{r:Ending}(h:NxI x xb j n w W)(hr:Zgn xb q W r w'):Zh x xb j q w r w':=by
 obtain ⟨h1,h2,h3⟩:=hr;have ho:Yk W.heap.size xb W w':=Yk.of_below h3 (nL _);refine ⟨λv hv=>?_,h2,h.only.trans (ho.mono (Nat.le_of_lt h.sz))⟩;obtain ⟨A,c,e,g1,g2,g3⟩:=h1 v hv;exact ⟨A,c,e,g1,g2,g3.up (Nat.le_of_lt h.sz),h.blk.below h3 h.blk.lt⟩
theorem Zh.up {x:Evl}{xb j j':Nat}{n:Nd}{q:Rs (List Nd)}{w W w':World}{r:Ending}(h:NxI x xb j n w W)(hr:Zh x xb j' q W r w'):Zh x xb j' q w r w':=
 ⟨λv hv=>by obtain ⟨A,c,e,g1,g2,g3,g4⟩:=hr.1 v hv;exact ⟨A,c,e,g1,g2,g3.up (Nat.le_of_lt h.sz),g4⟩,hr.2.1,h.only.trans (hr.2.2.mono (Nat.le_of_lt h.sz))⟩
theorem Z4s (x:Evl)(n:Nd)(ho:n.op=8):Zs x [n]:=by
 intro i xb rest w hdr hx hB;have hn:x.e[i]? = some n:=by
  have:=congrArg (λl=>l[0]?) hdr;simpa [List.getElem?_drop] using this
 have hil:i < x.e.length:=(List.getElem?_eq_some_iff.1 hn).1;have hxb:=hB.lt;obtain ⟨be,oe,hea,hbe,hcs⟩:=hx.ex.at_ hil;obtain ⟨n0,n1,n2,n3⟩:=hcs i n hn;have hS0:NxS xb i be oe x n w w.drew:=⟨by rw [<-hea];exact hB.cell 8,hB.cell 9,n0,n1,n2,n3⟩;have hbw:be < w.heap.size:=Nat.lt_trans hbe hxb;have HS0:=Ld (hS0.alloc hxb hbw);have HS1:=Ld hS0;have hia:=Vc be oe x.e.length x.eca i hil;have HDR:=Ld hdr;have hni:=Xq (n:=n) hx hB;have HNI:=Ld hni;have h9:w.cell? ⟨xb,9,none⟩=some (.int .i64 i):=hS0.s1;have hf9:w.frozen? ⟨xb,9,none⟩=false:=hB.frozen 9;have hi1:IntKind.wrap .i64 ((i:Int)+1)=(i:Int)+1:=by
  have:=hx.el;exact IntWalk.i64_in _ (by omega)
 have hni0:=hni.drew;have hdr1:x.e.drop (i+1) = []++rest:=by
  have:=congrArg List.tail hdr;simpa [List.tail_drop] using this
 have hns:n.s.size<=140737488351232:=(hx.ek n (mG hn)).1;clear hcs n0 n1 n2 n3 hea hn hx hB hdr hS0 hni HDR;have t1:(n.op==1)=false:=by simp [ho]
 have t2:(n.op==2)=false:=by simp [ho]
 have t3:(n.op==3)=false:=by simp [ho]
 have t4:(n.op==4)=false:=by simp [ho]
 have t8:(n.op==8)=true:=by simp [ho]
 have t11:(n.op==11)=false:=by simp [ho]
 have t12:(n.op==12)=false:=by simp [ho]
 have t13:(n.op==13)=false:=by simp [ho]
 have t5:(n.op==5)=false:=by simp [ho]
 have t6:(n.op==6)=false:=by simp [ho]
 have t9:(n.op==9)=false:=by simp [ho]
 have t10:(n.op==10)=false:=by simp [ho]
 have t21:(n.op==21)=false:=by simp [ho]
 have t22:(n.op==22)=false:=by simp [ho]
 have t23:(n.op==23)=false:=by simp [ho]
 have t24:(n.op==24)=false:=by simp [ho]
 have hcall:=Zrm x xb (i+1) n.s (nw w xb i n).drew hni0.ev hni0.blk;unfold nw at hcall;have HA:=Ld hcall;rw [Zti x.es x.q ho,show i + [n].length=i+1 from rfl];generalize Jf x.q n.s.toList=q at HA ⊢;clear hcall hni0 hdr1 ho hns;go_enter Tryz.func52,Tryz.ntmps52
 go_wp2_with fail
 refine Zg (S:=NxS xb i be oe x n w) [(0,false),(1,false),(2,false),(3,false),(4,false),(5,false),(6,false),(7,false),(8,false),(9,false),(10,true),(11,true)] (by kernel_rfl) (by kernel_rfl) (λ_ _ _ _ _ h=>h) HS1.out (λhW'=>?_);simp only [Yl,List.filterMap_cons,List.filterMap_nil,List.getElem?_cons_zero,List.getElem?_cons_succ,Option.map_some];(repeat ((first | (refine Ze (v:=?_) (by rfl) ?_ ?_;rotate_left;(focus (intro W hW;obtain ⟨s0,s1,s2,s3,s4,s5⟩:=hW;go_simp;try with_reducible rfl))) | refine Zd (by rfl) ?_);simp only [Act.put,pA,pB,pC]))
 clear hW';refine Zc (λK hK=>?_);go_simp
 refine hK _ _ (HS0.out _) ?_;clear hK K;refine Zc (λK hK=>?_);go_simp
 refine hK _ _ (HS0.out _) ?_;clear hK K;refine Yj ?_;go_wp2_with fail
 refine HA.out.mono ?_;rintro r w1 hr2;have hpost:=Zh.nam HNI.out.drew hr2;obtain ⟨g1,g2,-⟩:=hr2;have HP:=Ld hpost;clear hpost;cases q with
 | bad k=>
  have hr:=g2 k rfl;subst hr;clear g1 g2;go_wp2_with fail
  exact ⟨rfl,HP.out⟩
 | ok u=>
  obtain ⟨A2,c2',rfl,-⟩:=g1 u rfl;clear g1 g2;go_wp2_with fail
  go_ret
  exact HP.out
theorem Zej {v:List Nd}{op:Int}(h:opH v=op):Vi (.ok v) op=.ok v:=by
 show (if opH v=op then Rs.ok v else .bad 2)=_;rw [if_pos h]
theorem Zcq {v:List Nd}{op:Int}(h:¬opH v=op):Vi (.ok v) op=.bad 2:=by
 show (if opH v=op then Rs.ok v else .bad 2)=_;rw [if_neg h]
theorem Zgm {op:Int}{v:List Nd}{qb:Rs (List Nd)}(h:¬opH v=1):Xm op (.ok v) qb=.bad 2:=by
 unfold Xm;rw [Zcq h];rfl
theorem Ziq {op:Int}{v:List Nd}{qb:Rs (List Nd)}(h:opH v=1):Xm op (.ok v) qb=if (nH v==1)=(op==12) then .ok v else Vi qb 1:=by
 unfold Xm;rw [Zej h];rfl
def NxG (x:Evl)(xb j:Nat)(q:Rs (List Nd))(W:World)(r:Ending)(w':World):Prop:=
 (∀v,q=.ok v->∃A c,r=.returned (.slice A v.length c)/\Yr v A c w'/\Xu (gx xb W) w' w'.heap.size A v/\V0 x xb w'/\Blk w' xb 99 (x.cells j))/\(∀k,q=.bad k->r=.panicked (noV k))/\Yk W.heap.size xb W w'
theorem Zs.go {x:Evl}{xb j:Nat}{W:World}{a rest:List Nd}(ha:Zs x a)(hex:Ex (.one false) a)(hx:V0 x xb W)(hB:Blk W xb 99 (x.cells j))(hd:x.e.drop j=a++rest) :
 Calls Tryz.prog 52 #[.pointer (some ⟨xb,0,none⟩)] W (NxG x xb (j+a.length) (evX x.es x.q a) W):=by
 have hmem:∀y∈a,y∈x.e:=λy hy=>List.mem_of_mem_drop (i:=j) (by rw [hd];simp [hy]);have hk:Y0 a:=Y0.sub hx.ek hmem;have hi:NdI a:=NdI.sub hx.ei hmem;refine (ha j xb rest W hd hx hB).mono ?_;rintro r w' ⟨h1,h2,h3⟩;refine ⟨λv hv=>?_,h2,h3⟩;obtain ⟨A,c,rfl,g1,g2,g3,g4⟩:=h1 v hv;have hf:=Zln hx hex hk hi hv;exact ⟨A,c,rfl,⟨hf.ok,hf.nd,g1,g2,g3.sl⟩,g3,hx.keep (h3.below (Nat.le_of_lt hB.lt) (nL _)),g4⟩
theorem Zhq {w:World}{b o L c:Nat}(h:0 < L):(Instr.indexAt 22 (.slice (some ⟨b,o,none⟩) L c) (.int .i64 0)).run Tryz.prog w=.ok (.pointer (some ⟨b,o,none⟩)) w:=by
 have h0:(0:Int) < (L:Int):=by omega
 go_simp
theorem Zvc (x:Evl)(xb j:Nat)(a b rest:List Nd)(w:World)(hf:Zgy x)(ha:Zs x a)(hb:Zs x b)(hex:Ex (.one false) a)(hexb:Ex (.one false) b)(hx:V0 x xb w)(hB:Blk w xb 99 (x.cells j))(hd:x.e.drop j=a++(b++rest)) :
 Calls Tryz.prog 86 #[.pointer (some ⟨xb,0,none⟩),.int .i64 11] w (Zh x xb (j+a.length+b.length) (Xm 11 (evX x.es x.q a) (evX x.es x.q b)) w):=by
 have hxb:=hB.lt;have hd2:x.e.drop (j+a.length)=b++rest:=by rw [<-List.drop_drop,hd];simp
 have hcA:=ha.go hex hx hB hd;have HA:=Ld hcA;have hcB:∀W:World,V0 x xb W->Blk W xb 99 (x.cells (j+a.length))->Calls Tryz.prog 52 #[.pointer (some ⟨xb,0,none⟩)] W (NxG x xb (j+a.length+b.length) (evX x.es x.q b) W):=λW h1 h2=>hb.go hexb h1 h2 hd2;have HB:=Ld hcB;have hcS:∀W:World,V0 x xb W->Blk W xb 99 (x.cells (j+a.length))->_:=λW h1 h2=>Zcy x xb (j+a.length) b rest W hf hexb hd2 h1 h2;have HSK:=Ld hcS;generalize j+a.length+b.length=j2 at HB HSK ⊢;generalize j+a.length=j1 at HA HB HSK;generalize evX x.es x.q a=q at HA ⊢;generalize evX x.es x.q b=qb at HB ⊢;obtain ⟨q',hq'⟩:∃q',q'=Xm 11 q qb:=⟨_,rfl⟩;rw [<-hq'];have HQ:=Ld hq';clear hcA hcB hcS hd hd2 hf hexb hex ha hb hx hB hq';go_enter Tryz.func86,Tryz.ntmps86
 go_wp2_with fail
 refine HA.out.mono ?_;rintro r w1 ⟨hq1,hq2,ho1⟩;have HO1:=Ld ho1;cases q with
 | bad k=>
  have hr:=hq2 k rfl;subst hr;clear hq1 hq2 ho1;obtain rfl:q'=.bad k:=HQ.out;clear HQ;go_wp2_with fail
  exact ⟨rfl,Zh.bad HO1.out⟩
 | ok v=>
  obtain ⟨A,c,rfl,hv,hof,hx1,hB1⟩:=hq1 v rfl;have HV:=Ld hv;have HOF:=Ld hof;have HX1:=Ld hx1;have HB1:=Ld hB1;have HM:=Ld (Yo v 1 A c w1 hv);have hs1:xb < w1.heap.size:=hB1.lt;clear hq1 hq2 ho1 hv hof hx1 hB1;go_wp2_with fail
  refine HM.out.mono ?_;rintro r w2 ⟨⟨hr1,hr2⟩,rfl⟩;by_cases h1:opH v=1
  . have hr:=hr1 h1;subst hr;have hq3:=HQ.out.trans (Ziq h1);have HQ3:=Ld hq3;obtain ⟨y,yr,yb,yo,hvy,rfl,hyb,⟨-,y1,-,-⟩,-,hny,-,-,hl⟩:=HV.out.head;rw [hny] at hq3;have HNY:=Ld hny;have hia:=λW=>Zhq (w:=W) (b:=yb) (o:=yo) (L:=v.length) (c:=c) hl;have HVY:=Ld hvy;clear hr1 hr2 h1 HQ hvy HQ3 hny;cases hy:(y.n==1) with
    | false=>
     have hq4:q'=.ok v:=(by rw [hq3,hy];rfl);clear hq3;subst hq4;go_wp2_with fail
     refine (HSK.out w2 HX1.out HB1.out).mono ?_;rintro r w3 ⟨rfl,hB3,ho3⟩;have hof3:Xu (gx xb w) w3 w3.heap.size (some ⟨yb,yo,none⟩) v:=HOF.out.past ho3 (nL _) hxb;have HP:=Ld (Zh.ok HV.out.le HV.out.max hof3 hB3 (HO1.out.trans (ho3.mono HO1.out.size)));clear hof3 hB3 ho3;go_wp2_with fail
     go_ret
     exact HP.out
    | true=>
     have hq4:q'=Vi qb 1:=(by rw [hq3,hy];rfl);have HQ4:=Ld hq4;clear hq3 hq4;go_wp2_with fail
     refine (HB.out w2 HX1.out HB1.out).mono ?_;rintro r w3 ⟨hp1,hp2,ho3⟩;have HO3:=Ld (HO1.out.trans (ho3.mono HO1.out.size));cases qb with
     | bad k=>
      have hr:=hp2 k rfl;subst hr;clear hp1 hp2 ho3;obtain rfl:q'=.bad k:=HQ4.out;clear HQ4;go_wp2_with fail
      exact ⟨rfl,Zh.bad HO3.out⟩
     | ok u=>
      obtain ⟨A2,c2,rfl,hu,hof2,-,hB2⟩:=hp1 u rfl;have HM2:=Ld (Yo u 1 A2 c2 w3 hu);have HP:=Ld (Zh.ok hu.le hu.max (hof2.up HO1.out.size) hB2 HO3.out);clear hp1 hp2 ho3 hu hof2 hB2;go_wp2_with fail
      refine HM2.out.mono ?_;rintro r w4 ⟨⟨hr1,hr2⟩,rfl⟩;by_cases h1:opH u=1
      . have hr:=hr1 h1;subst hr;obtain rfl:q'=.ok u:=HQ4.out.trans (Zej h1);clear hr1 hr2 h1 HQ4;go_wp2_with fail
        go_ret
        exact HP.out
      . have hr:=hr2 h1;subst hr;obtain rfl:q'=.bad 2:=HQ4.out.trans (Zcq h1);clear hr1 hr2 h1 HQ4;go_wp2_with fail
        exact ⟨rfl,Zh.bad HO3.out⟩
  . have hr:=hr2 h1;subst hr;obtain rfl:q'=.bad 2:=HQ.out.trans (Zgm h1);clear hr1 hr2 h1 HQ;go_wp2_with fail
    exact ⟨rfl,Zh.bad HO1.out⟩
theorem Zv2 (x:Evl)(xb j:Nat)(a b rest:List Nd)(w:World)(hf:Zgy x)(ha:Zs x a)(hb:Zs x b)(hex:Ex (.one false) a)(hexb:Ex (.one false) b)(hx:V0 x xb w)(hB:Blk w xb 99 (x.cells j))(hd:x.e.drop j=a++(b++rest)) :
 Calls Tryz.prog 86 #[.pointer (some ⟨xb,0,none⟩),.int .i64 12] w (Zh x xb (j+a.length+b.length) (Xm 12 (evX x.es x.q a) (evX x.es x.q b)) w):=by
 have hxb:=hB.lt;have hd2:x.e.drop (j+a.length)=b++rest:=by rw [<-List.drop_drop,hd];simp
 have hcA:=ha.go hex hx hB hd;have HA:=Ld hcA;have hcB:∀W:World,V0 x xb W->Blk W xb 99 (x.cells (j+a.length))->Calls Tryz.prog 52 #[.pointer (some ⟨xb,0,none⟩)] W (NxG x xb (j+a.length+b.length) (evX x.es x.q b) W):=λW h1 h2=>hb.go hexb h1 h2 hd2;have HB:=Ld hcB;have hcS:∀W:World,V0 x xb W->Blk W xb 99 (x.cells (j+a.length))->_:=λW h1 h2=>Zcy x xb (j+a.length) b rest W hf hexb hd2 h1 h2;have HSK:=Ld hcS;generalize j+a.length+b.length=j2 at HB HSK ⊢;generalize j+a.length=j1 at HA HB HSK;generalize evX x.es x.q a=q at HA ⊢;generalize evX x.es x.q b=qb at HB ⊢;obtain ⟨q',hq'⟩:∃q',q'=Xm 12 q qb:=⟨_,rfl⟩;rw [<-hq'];have HQ:=Ld hq';clear hcA hcB hcS hd hd2 hf hexb hex ha hb hx hB hq';go_enter Tryz.func86,Tryz.ntmps86
 go_wp2_with fail
 refine HA.out.mono ?_;rintro r w1 ⟨hq1,hq2,ho1⟩;have HO1:=Ld ho1;cases q with
 | bad k=>
  have hr:=hq2 k rfl;subst hr;clear hq1 hq2 ho1;obtain rfl:q'=.bad k:=HQ.out;clear HQ;go_wp2_with fail
  exact ⟨rfl,Zh.bad HO1.out⟩
 | ok v=>
  obtain ⟨A,c,rfl,hv,hof,hx1,hB1⟩:=hq1 v rfl;have HV:=Ld hv;have HOF:=Ld hof;have HX1:=Ld hx1;have HB1:=Ld hB1;have HM:=Ld (Yo v 1 A c w1 hv);have hs1:xb < w1.heap.size:=hB1.lt;clear hq1 hq2 ho1 hv hof hx1 hB1;go_wp2_with fail
  refine HM.out.mono ?_;rintro r w2 ⟨⟨hr1,hr2⟩,rfl⟩;by_cases h1:opH v=1
  . have hr:=hr1 h1;subst hr;have hq3:=HQ.out.trans (Ziq h1);have HQ3:=Ld hq3;obtain ⟨y,yr,yb,yo,hvy,rfl,hyb,⟨-,y1,-,-⟩,-,hny,-,-,hl⟩:=HV.out.head;rw [hny] at hq3;have HNY:=Ld hny;have hia:=λW=>Zhq (w:=W) (b:=yb) (o:=yo) (L:=v.length) (c:=c) hl;have HVY:=Ld hvy;clear hr1 hr2 h1 HQ hvy HQ3 hny;cases hy:(y.n==1) with
    | true=>
     have hq4:q'=.ok v:=(by rw [hq3,hy];rfl);clear hq3;subst hq4;go_wp2_with fail
     refine (HSK.out w2 HX1.out HB1.out).mono ?_;rintro r w3 ⟨rfl,hB3,ho3⟩;have hof3:Xu (gx xb w) w3 w3.heap.size (some ⟨yb,yo,none⟩) v:=HOF.out.past ho3 (nL _) hxb;have HP:=Ld (Zh.ok HV.out.le HV.out.max hof3 hB3 (HO1.out.trans (ho3.mono HO1.out.size)));clear hof3 hB3 ho3;go_wp2_with fail
     go_ret
     exact HP.out
    | false=>
     have hq4:q'=Vi qb 1:=(by rw [hq3,hy];rfl);have HQ4:=Ld hq4;clear hq3 hq4;go_wp2_with fail
     refine (HB.out w2 HX1.out HB1.out).mono ?_;rintro r w3 ⟨hp1,hp2,ho3⟩;have HO3:=Ld (HO1.out.trans (ho3.mono HO1.out.size));cases qb with
     | bad k=>
      have hr:=hp2 k rfl;subst hr;clear hp1 hp2 ho3;obtain rfl:q'=.bad k:=HQ4.out;clear HQ4;go_wp2_with fail
      exact ⟨rfl,Zh.bad HO3.out⟩
     | ok u=>
      obtain ⟨A2,c2,rfl,hu,hof2,-,hB2⟩:=hp1 u rfl;have HM2:=Ld (Yo u 1 A2 c2 w3 hu);have HP:=Ld (Zh.ok hu.le hu.max (hof2.up HO1.out.size) hB2 HO3.out);clear hp1 hp2 ho3 hu hof2 hB2;go_wp2_with fail
      refine HM2.out.mono ?_;rintro r w4 ⟨⟨hr1,hr2⟩,rfl⟩;by_cases h1:opH u=1
      . have hr:=hr1 h1;subst hr;obtain rfl:q'=.ok u:=HQ4.out.trans (Zej h1);clear hr1 hr2 h1 HQ4;go_wp2_with fail
        go_ret
        exact HP.out
      . have hr:=hr2 h1;subst hr;obtain rfl:q'=.bad 2:=HQ4.out.trans (Zcq h1);clear hr1 hr2 h1 HQ4;go_wp2_with fail
        exact ⟨rfl,Zh.bad HO3.out⟩
  . have hr:=hr2 h1;subst hr;obtain rfl:q'=.bad 2:=HQ.out.trans (Zgm h1);clear hr1 hr2 h1 HQ;go_wp2_with fail
    exact ⟨rfl,Zh.bad HO1.out⟩
theorem Z2w (x:Evl)(n:Nd)(hf:Zgy x)(a b:List Nd)(ha:Zs x a)(hb:Zs x b)(hex:Ex (.one false) a)(hexb:Ex (.one false) b)(ho:n.op=11):Zs x (n :: (a++b)):=by
 intro i xb rest w hdr hx hB;have hn:x.e[i]? = some n:=by
  have:=congrArg (λl=>l[0]?) hdr;simpa [List.getElem?_drop] using this
 have hil:i < x.e.length:=(List.getElem?_eq_some_iff.1 hn).1;have hxb:=hB.lt;obtain ⟨be,oe,hea,hbe,hcs⟩:=hx.ex.at_ hil;obtain ⟨n0,n1,n2,n3⟩:=hcs i n hn;have hS0:NxS xb i be oe x n w w.drew:=⟨by rw [<-hea];exact hB.cell 8,hB.cell 9,n0,n1,n2,n3⟩;have hbw:be < w.heap.size:=Nat.lt_trans hbe hxb;have HS0:=Ld (hS0.alloc hxb hbw);have HS1:=Ld hS0;have hia:=Vc be oe x.e.length x.eca i hil;have HDR:=Ld hdr;have hni:=Xq (n:=n) hx hB;have HNI:=Ld hni;have h9:w.cell? ⟨xb,9,none⟩=some (.int .i64 i):=hS0.s1;have hf9:w.frozen? ⟨xb,9,none⟩=false:=hB.frozen 9;have hi1:IntKind.wrap .i64 ((i:Int)+1)=(i:Int)+1:=by
  have:=hx.el;exact IntWalk.i64_in _ (by omega)
 have hni0:=hni.drew;have hdr1:x.e.drop (i+1)=(a++b)++rest:=by
  have:=congrArg List.tail hdr;simpa [List.tail_drop] using this
 have hns:n.s.size<=140737488351232:=(hx.ek n (mG hn)).1;clear hcs n0 n1 n2 n3 hea hn hx hB hdr hS0 hni HDR;have t1:(n.op==1)=false:=by simp [ho]
 have t2:(n.op==2)=false:=by simp [ho]
 have t3:(n.op==3)=false:=by simp [ho]
 have t4:(n.op==4)=false:=by simp [ho]
 have t8:(n.op==8)=false:=by simp [ho]
 have t11:(n.op==11)=true:=by simp [ho]
 have t12:(n.op==12)=false:=by simp [ho]
 have t13:(n.op==13)=false:=by simp [ho]
 have t5:(n.op==5)=false:=by simp [ho]
 have t6:(n.op==6)=false:=by simp [ho]
 have t9:(n.op==9)=false:=by simp [ho]
 have t10:(n.op==10)=false:=by simp [ho]
 have t21:(n.op==21)=false:=by simp [ho]
 have t22:(n.op==22)=false:=by simp [ho]
 have t23:(n.op==23)=false:=by simp [ho]
 have t24:(n.op==24)=false:=by simp [ho]
 have hlen:i+(n :: (a++b)).length=i+1+a.length+b.length:=by simp;omega
 have hcall:Calls Tryz.prog 86 #[.pointer (some ⟨xb,0,none⟩),.int .i64 n.op] (nw w xb i n).drew (Zh x xb (i+1+a.length+b.length) (Xm n.op (evX x.es x.q a) (evX x.es x.q b)) (nw w xb i n).drew):=by
  rw [ho];exact Zvc x xb (i+1) a b rest _ hf ha hb hex hexb hni0.ev hni0.blk (by rw [hdr1];simp)
 rw [hlen,Zm8 x.es x.q (by omega) hex hexb];generalize i+1+a.length+b.length=j2 at hcall ⊢;generalize Xm n.op (evX x.es x.q a) (evX x.es x.q b)=q at hcall ⊢;unfold nw at hcall;have HA:=Ld hcall;clear hcall hni0 hdr1 ho hns hf ha hb hex hexb hlen;go_enter Tryz.func52,Tryz.ntmps52
 go_wp2_with fail
 refine Zg (S:=NxS xb i be oe x n w) [(0,false),(1,false),(2,false),(3,false),(4,false),(5,false),(6,false),(7,false),(8,false),(9,false),(10,true),(11,true)] (by kernel_rfl) (by kernel_rfl) (λ_ _ _ _ _ h=>h) HS1.out (λhW'=>?_);simp only [Yl,List.filterMap_cons,List.filterMap_nil,List.getElem?_cons_zero,List.getElem?_cons_succ,Option.map_some];(repeat ((first | (refine Ze (v:=?_) (by rfl) ?_ ?_;rotate_left;(focus (intro W hW;obtain ⟨s0,s1,s2,s3,s4,s5⟩:=hW;go_simp;try with_reducible rfl))) | refine Zd (by rfl) ?_);simp only [Act.put,pA,pB,pC]))
 clear hW';refine Zc (λK hK=>?_);go_simp
 refine hK _ _ (HS0.out _) ?_;clear hK K;refine Zc (λK hK=>?_);go_simp
 refine hK _ _ (HS0.out _) ?_;clear hK K;refine Yj ?_;go_wp2_with fail
 refine HA.out.mono ?_;rintro r w1 hr2;have hpost:=Zh.up HNI.out.drew hr2;obtain ⟨g1,g2,-⟩:=hr2;have HP:=Ld hpost;clear hpost;cases q with
 | bad k=>
  have hr:=g2 k rfl;subst hr;clear g1 g2;go_wp2_with fail
  exact ⟨rfl,HP.out⟩
 | ok u=>
  obtain ⟨A2,c2',rfl,-⟩:=g1 u rfl;clear g1 g2;go_wp2_with fail
  go_ret
  exact HP.out
theorem Z3u (x:Evl)(n:Nd)(hf:Zgy x)(a b:List Nd)(ha:Zs x a)(hb:Zs x b)(hex:Ex (.one false) a)(hexb:Ex (.one false) b)(ho:n.op=12):Zs x (n :: (a++b)):=by
 intro i xb rest w hdr hx hB;have hn:x.e[i]? = some n:=by
  have:=congrArg (λl=>l[0]?) hdr;simpa [List.getElem?_drop] using this
 have hil:i < x.e.length:=(List.getElem?_eq_some_iff.1 hn).1;have hxb:=hB.lt;obtain ⟨be,oe,hea,hbe,hcs⟩:=hx.ex.at_ hil;obtain ⟨n0,n1,n2,n3⟩:=hcs i n hn;have hS0:NxS xb i be oe x n w w.drew:=⟨by rw [<-hea];exact hB.cell 8,hB.cell 9,n0,n1,n2,n3⟩;have hbw:be < w.heap.size:=Nat.lt_trans hbe hxb;have HS0:=Ld (hS0.alloc hxb hbw);have HS1:=Ld hS0;have hia:=Vc be oe x.e.length x.eca i hil;have HDR:=Ld hdr;have hni:=Xq (n:=n) hx hB;have HNI:=Ld hni;have h9:w.cell? ⟨xb,9,none⟩=some (.int .i64 i):=hS0.s1;have hf9:w.frozen? ⟨xb,9,none⟩=false:=hB.frozen 9;have hi1:IntKind.wrap .i64 ((i:Int)+1)=(i:Int)+1:=by
  have:=hx.el;exact IntWalk.i64_in _ (by omega)
 have hni0:=hni.drew;have hdr1:x.e.drop (i+1)=(a++b)++rest:=by
  have:=congrArg List.tail hdr;simpa [List.tail_drop] using this
 have hns:n.s.size<=140737488351232:=(hx.ek n (mG hn)).1;clear hcs n0 n1 n2 n3 hea hn hx hB hdr hS0 hni HDR;have t1:(n.op==1)=false:=by simp [ho]
 have t2:(n.op==2)=false:=by simp [ho]
 have t3:(n.op==3)=false:=by simp [ho]
 have t4:(n.op==4)=false:=by simp [ho]
 have t8:(n.op==8)=false:=by simp [ho]
 have t11:(n.op==11)=false:=by simp [ho]
 have t12:(n.op==12)=true:=by simp [ho]
 have t13:(n.op==13)=false:=by simp [ho]
 have t5:(n.op==5)=false:=by simp [ho]
 have t6:(n.op==6)=false:=by simp [ho]
 have t9:(n.op==9)=false:=by simp [ho]
 have t10:(n.op==10)=false:=by simp [ho]
 have t21:(n.op==21)=false:=by simp [ho]
 have t22:(n.op==22)=false:=by simp [ho]
 have t23:(n.op==23)=false:=by simp [ho]
 have t24:(n.op==24)=false:=by simp [ho]
 have hlen:i+(n :: (a++b)).length=i+1+a.length+b.length:=by simp;omega
 have hcall:Calls Tryz.prog 86 #[.pointer (some ⟨xb,0,none⟩),.int .i64 n.op] (nw w xb i n).drew (Zh x xb (i+1+a.length+b.length) (Xm n.op (evX x.es x.q a) (evX x.es x.q b)) (nw w xb i n).drew):=by
  rw [ho];exact Zv2 x xb (i+1) a b rest _ hf ha hb hex hexb hni0.ev hni0.blk (by rw [hdr1];simp)
 rw [hlen,Zm8 x.es x.q (by omega) hex hexb];generalize i+1+a.length+b.length=j2 at hcall ⊢;generalize Xm n.op (evX x.es x.q a) (evX x.es x.q b)=q at hcall ⊢;unfold nw at hcall;have HA:=Ld hcall;clear hcall hni0 hdr1 ho hns hf ha hb hex hexb hlen;go_enter Tryz.func52,Tryz.ntmps52
 go_wp2_with fail
 refine Zg (S:=NxS xb i be oe x n w) [(0,false),(1,false),(2,false),(3,false),(4,false),(5,false),(6,false),(7,false),(8,false),(9,false),(10,true),(11,true)] (by kernel_rfl) (by kernel_rfl) (λ_ _ _ _ _ h=>h) HS1.out (λhW'=>?_);simp only [Yl,List.filterMap_cons,List.filterMap_nil,List.getElem?_cons_zero,List.getElem?_cons_succ,Option.map_some];(repeat ((first | (refine Ze (v:=?_) (by rfl) ?_ ?_;rotate_left;(focus (intro W hW;obtain ⟨s0,s1,s2,s3,s4,s5⟩:=hW;go_simp;try with_reducible rfl))) | refine Zd (by rfl) ?_);simp only [Act.put,pA,pB,pC]))
 clear hW';refine Zc (λK hK=>?_);go_simp
 refine hK _ _ (HS0.out _) ?_;clear hK K;refine Zc (λK hK=>?_);go_simp
 refine hK _ _ (HS0.out _) ?_;clear hK K;refine Yj ?_;go_wp2_with fail
 refine HA.out.mono ?_;rintro r w1 hr2;have hpost:=Zh.up HNI.out.drew hr2;obtain ⟨g1,g2,-⟩:=hr2;have HP:=Ld hpost;clear hpost;cases q with
 | bad k=>
  have hr:=g2 k rfl;subst hr;clear g1 g2;go_wp2_with fail
  exact ⟨rfl,HP.out⟩
 | ok u=>
  obtain ⟨A2,c2',rfl,-⟩:=g1 u rfl;clear g1 g2;go_wp2_with fail
  go_ret
  exact HP.out
theorem Zos {v:List Nd}{qa qb:Rs (List Nd)}(h:¬opH v=1):Vm (.ok v) qa qb=.bad 2:=by
 unfold Vm;rw [Zcq h];rfl
theorem Zqg {v:List Nd}{qa qb:Rs (List Nd)}(h:opH v=1):Vm (.ok v) qa qb=if nH v=1 then qa else qb:=by
 unfold Vm;rw [Zej h];rfl
theorem Zof (x:Evl)(xb j:Nat)(e a b rest:List Nd)(w:World)(hf:Zgy x)(he:Zs x e)(ha:Zs x a)(hb:Zs x b)(hexe:Ex (.one false) e)(hex:Ex (.one false) a)(hexb:Ex (.one false) b)(hx:V0 x xb w)(hB:Blk w xb 99 (x.cells j))(hd:x.e.drop j=e++(a++(b++rest))) :
 Calls Tryz.prog 87 #[.pointer (some ⟨xb,0,none⟩)] w (Zh x xb (j+e.length+a.length+b.length) (Vm (evX x.es x.q e) (evX x.es x.q a) (evX x.es x.q b)) w):=by
 have hxb:=hB.lt;have hd1:x.e.drop (j+e.length)=a++(b++rest):=by rw [<-List.drop_drop,hd];simp
 have hd2:x.e.drop (j+e.length+a.length)=b++rest:=by rw [<-List.drop_drop,hd1];simp
 have hcE:=he.go hexe hx hB hd;have HE:=Ld hcE;have hcA:∀W:World,V0 x xb W->Blk W xb 99 (x.cells (j+e.length))->Calls Tryz.prog 52 #[.pointer (some ⟨xb,0,none⟩)] W (NxG x xb (j+e.length+a.length) (evX x.es x.q a) W):=λW h1 h2=>ha.go hex h1 h2 hd1;have HA:=Ld hcA;have hcB:∀W:World,V0 x xb W->Blk W xb 99 (x.cells (j+e.length+a.length))->Calls Tryz.prog 52 #[.pointer (some ⟨xb,0,none⟩)] W (NxG x xb (j+e.length+a.length+b.length) (evX x.es x.q b) W):=λW h1 h2=>hb.go hexb h1 h2 hd2;have HB:=Ld hcB;have hcS:∀W:World,V0 x xb W->Blk W xb 99 (x.cells (j+e.length+a.length))->_:=λW h1 h2=>Zcy x xb (j+e.length+a.length) b rest W hf hexb hd2 h1 h2;have HSB:=Ld hcS;have hcS':∀W:World,V0 x xb W->Blk W xb 99 (x.cells (j+e.length))->_:=λW h1 h2=>Zcy x xb (j+e.length) a (b++rest) W hf hex hd1 h1 h2;have HSA:=Ld hcS';generalize j+e.length+a.length+b.length=j3 at HB HSB ⊢;generalize j+e.length+a.length=j2 at HA HB HSB HSA;generalize j+e.length=j1 at HE HA HSA;generalize evX x.es x.q e=qe at HE ⊢;generalize evX x.es x.q a=qa at HA ⊢;generalize evX x.es x.q b=qb at HB ⊢;obtain ⟨q',hq'⟩:∃q',q'=Vm qe qa qb:=⟨_,rfl⟩;rw [<-hq'];have HQ:=Ld hq';clear hcA hcB hcS hcS' hcE hd hd1 hd2 hf hexe hexb hex he ha hb hx hB hq';go_enter Tryz.func87,Tryz.ntmps87
 go_wp2_with fail
 refine HE.out.mono ?_;rintro r w1 ⟨hq1,hq2,ho1⟩;have HO1:=Ld ho1;cases qe with
 | bad k=>
  have hr:=hq2 k rfl;subst hr;clear hq1 hq2 ho1;obtain rfl:q'=.bad k:=HQ.out;clear HQ;go_wp2_with fail
  exact ⟨rfl,Zh.bad HO1.out⟩
 | ok v=>
  obtain ⟨A,c,rfl,hv,-,hx1,hB1⟩:=hq1 v rfl;have HV:=Ld hv;have HX1:=Ld hx1;have HB1:=Ld hB1;have HM:=Ld (Yo v 1 A c w1 hv);have hs1:xb < w1.heap.size:=hB1.lt;clear hq1 hq2 ho1 hv hx1 hB1;go_wp2_with fail
  refine HM.out.mono ?_;rintro r w2 ⟨⟨hr1,hr2⟩,rfl⟩;by_cases h1:opH v=1
  . have hr:=hr1 h1;subst hr;have hq3:=HQ.out.trans (Zqg h1);obtain ⟨y,yr,yb,yo,hvy,rfl,hyb,⟨-,y1,-,-⟩,-,hny,-,-,hl⟩:=HV.out.head;rw [hny] at hq3;have hia:=λW=>Zhq (w:=W) (b:=yb) (o:=yo) (L:=v.length) (c:=c) hl;clear hr1 hr2 h1 HQ hvy hny;cases hy:(y.n==1) with
    | true=>
     have hq4:q'=qa:=(by rw [hq3,if_pos (by simpa using hy)]);clear hq3;subst hq4;go_wp2_with fail
     refine (HA.out w2 HX1.out HB1.out).mono ?_;rintro r w3 ⟨hp1,hp2,ho3⟩;have HO3:=Ld (HO1.out.trans (ho3.mono HO1.out.size));cases q' with
     | bad k=>
      have hr:=hp2 k rfl;subst hr;clear hp1 hp2 ho3;go_wp2_with fail
      exact ⟨rfl,Zh.bad HO3.out⟩
     | ok u=>
      obtain ⟨A2,c2,rfl,hu,hof2,hx2,hB2⟩:=hp1 u rfl;have HU:=Ld hu;have HOF:=Ld hof2;have HX2:=Ld hx2;have HB2:=Ld hB2;clear hp1 hp2 ho3 hu hof2 hx2 hB2;go_wp2_with fail
      refine (HSB.out w3 HX2.out HB2.out).mono ?_;rintro r w4 ⟨rfl,hB4,ho4⟩;have hof4:Xu (gx xb w) w4 w4.heap.size A2 u:=(HOF.out.up HO1.out.size).past ho4 (nL _) hxb;have HP:=Ld (Zh.ok HU.out.le HU.out.max hof4 hB4 (HO3.out.trans (ho4.mono HO3.out.size)));clear hof4 hB4 ho4;go_wp2_with fail
      go_ret
      exact HP.out
    | false=>
     have hq4:q'=qb:=(by rw [hq3,if_neg (by simpa using hy)]);clear hq3;subst hq4;go_wp2_with fail
     refine (HSA.out w2 HX1.out HB1.out).mono ?_;rintro r w3 ⟨rfl,hB3,ho3⟩;have hx3:V0 x xb w3:=HX1.out.keep (ho3.below (Nat.le_of_lt hs1) (nL _));have HO3:=Ld (HO1.out.trans (ho3.mono HO1.out.size));have HC:=Ld (HB.out w3 hx3 hB3);clear hB3 hx3 ho3;go_wp2_with fail
     refine HC.out.mono ?_;rintro r w4 ⟨hp1,hp2,ho4⟩;have HO4:=Ld (HO3.out.trans (ho4.mono HO3.out.size));cases q' with
     | bad k=>
      have hr:=hp2 k rfl;subst hr;clear hp1 hp2 ho4;go_wp2_with fail
      exact ⟨rfl,Zh.bad HO4.out⟩
     | ok u=>
      obtain ⟨A2,c2,rfl,hu,hof2,hx2,hB2⟩:=hp1 u rfl;have HP:=Ld (Zh.ok hu.le hu.max (hof2.up HO3.out.size) hB2 HO4.out);clear hp1 hp2 ho4 hu hof2 hx2 hB2;go_wp2_with fail
      go_ret
      exact HP.out
  . have hr:=hr2 h1;subst hr;obtain rfl:q'=.bad 2:=HQ.out.trans (Zos h1);clear hr1 hr2 h1 HQ;go_wp2_with fail
    exact ⟨rfl,Zh.bad HO1.out⟩
theorem Z22 (x:Evl)(n:Nd)(hf:Zgy x)(e a b:List Nd)(he:Zs x e)(ha:Zs x a)(hb:Zs x b)(hexe:Ex (.one false) e)(hex:Ex (.one false) a)(hexb:Ex (.one false) b)(ho:n.op=13):Zs x (n :: (e++(a++b))):=by
 intro i xb rest w hdr hx hB;have hn:x.e[i]? = some n:=by
  have:=congrArg (λl=>l[0]?) hdr;simpa [List.getElem?_drop] using this
 have hil:i < x.e.length:=(List.getElem?_eq_some_iff.1 hn).1;have hxb:=hB.lt;obtain ⟨be,oe,hea,hbe,hcs⟩:=hx.ex.at_ hil;obtain ⟨n0,n1,n2,n3⟩:=hcs i n hn;have hS0:NxS xb i be oe x n w w.drew:=⟨by rw [<-hea];exact hB.cell 8,hB.cell 9,n0,n1,n2,n3⟩;have hbw:be < w.heap.size:=Nat.lt_trans hbe hxb;have HS0:=Ld (hS0.alloc hxb hbw);have HS1:=Ld hS0;have hia:=Vc be oe x.e.length x.eca i hil;have HDR:=Ld hdr;have hni:=Xq (n:=n) hx hB;have HNI:=Ld hni;have h9:w.cell? ⟨xb,9,none⟩=some (.int .i64 i):=hS0.s1;have hf9:w.frozen? ⟨xb,9,none⟩=false:=hB.frozen 9;have hi1:IntKind.wrap .i64 ((i:Int)+1)=(i:Int)+1:=by
  have:=hx.el;exact IntWalk.i64_in _ (by omega)
 have hni0:=hni.drew;have hdr1:x.e.drop (i+1)=(e++(a++b))++rest:=by
  have:=congrArg List.tail hdr;simpa [List.tail_drop] using this
 have hns:n.s.size<=140737488351232:=(hx.ek n (mG hn)).1;clear hcs n0 n1 n2 n3 hea hn hx hB hdr hS0 hni HDR;have t1:(n.op==1)=false:=by simp [ho]
 have t2:(n.op==2)=false:=by simp [ho]
 have t3:(n.op==3)=false:=by simp [ho]
 have t4:(n.op==4)=false:=by simp [ho]
 have t8:(n.op==8)=false:=by simp [ho]
 have t11:(n.op==11)=false:=by simp [ho]
 have t12:(n.op==12)=false:=by simp [ho]
 have t13:(n.op==13)=true:=by simp [ho]
 have t5:(n.op==5)=false:=by simp [ho]
 have t6:(n.op==6)=false:=by simp [ho]
 have t9:(n.op==9)=false:=by simp [ho]
 have t10:(n.op==10)=false:=by simp [ho]
 have t21:(n.op==21)=false:=by simp [ho]
 have t22:(n.op==22)=false:=by simp [ho]
 have t23:(n.op==23)=false:=by simp [ho]
 have t24:(n.op==24)=false:=by simp [ho]
 have hlen:i+(n :: (e++(a++b))).length=i+1+e.length+a.length+b.length:=by simp;omega
 have hcall:=Zof x xb (i+1) e a b rest (nw w xb i n).drew hf he ha hb hexe hex hexb hni0.ev hni0.blk (by rw [hdr1];simp);rw [hlen,Z0e x.es x.q ho hexe hex hexb];generalize i+1+e.length+a.length+b.length=j2 at hcall ⊢;generalize Vm (evX x.es x.q e) (evX x.es x.q a) (evX x.es x.q b)=q at hcall ⊢;unfold nw at hcall;have HA:=Ld hcall;clear hcall hni0 hdr1 ho hns hf he ha hb hexe hex hexb hlen;go_enter Tryz.func52,Tryz.ntmps52
 go_wp2_with fail
 refine Zg (S:=NxS xb i be oe x n w) [(0,false),(1,false),(2,false),(3,false),(4,false),(5,false),(6,false),(7,false),(8,false),(9,false),(10,true),(11,true)] (by kernel_rfl) (by kernel_rfl) (λ_ _ _ _ _ h=>h) HS1.out (λhW'=>?_);simp only [Yl,List.filterMap_cons,List.filterMap_nil,List.getElem?_cons_zero,List.getElem?_cons_succ,Option.map_some];(repeat ((first | (refine Ze (v:=?_) (by rfl) ?_ ?_;rotate_left;(focus (intro W hW;obtain ⟨s0,s1,s2,s3,s4,s5⟩:=hW;go_simp;try with_reducible rfl))) | refine Zd (by rfl) ?_);simp only [Act.put,pA,pB,pC]))
 clear hW';refine Zc (λK hK=>?_);go_simp
 refine hK _ _ (HS0.out _) ?_;clear hK K;refine Zc (λK hK=>?_);go_simp
 refine hK _ _ (HS0.out _) ?_;clear hK K;refine Yj ?_;go_wp2_with fail
 refine HA.out.mono ?_;rintro r w1 hr2;have hpost:=Zh.up HNI.out.drew hr2;obtain ⟨g1,g2,-⟩:=hr2;have HP:=Ld hpost;clear hpost;cases q with
 | bad k=>
  have hr:=g2 k rfl;subst hr;clear g1 g2;go_wp2_with fail
  exact ⟨rfl,HP.out⟩
 | ok u=>
  obtain ⟨A2,c2',rfl,-⟩:=g1 u rfl;clear g1 g2;go_wp2_with fail
  go_ret
  exact HP.out
theorem Zky {w w1 w2:World}{r r2:Ending}{q:Rs (List Nd)}(h:X5 w r w1 (rsL q) (rsE q))(hne:∀k,q=.bad k->k≠0){A:Option Addr}{c:Nat}(hr:r=.returned (.tuple #[.slice A (rsL q).length c,Yh (rsE q)]))
 (ht:((rsE q=0->r2=.returned (.slice A (rsL q).length c))/\(rsE q≠0->r2=.panicked (noV (rsE q))))/\RowKit.Below w1.heap.size w1 w2):Zp w r2 w2 q:=by
 obtain ⟨A',c',e,h1,h2,h3,h4,h5⟩:=h;rw [hr] at e;injection e with e
 have e':A=A'/\c=c':=by simpa using e
 obtain ⟨rfl,rfl⟩:=e';obtain ⟨⟨t1,t2⟩,hb⟩:=ht;have hb2:RowKit.Below w.heap.size w w2:=h4.trans (hb.mono h4.size);cases q with
 | ok v=>exact Zp.ok ⟨A,c,t1 rfl,h1,h2,(h3.below hb).more hb.size,hb2,h5⟩
 | bad k=>
  have:=t2 (hne k rfl);rw [this];exact Zp.no hb2
theorem Zsr {vs:List (List Nd)}{k:Int}(h:Qc vs=.bad k):k≠0:=by
 unfold Qc at h;split at h
 . injection h with h;rw [<-h];assumption
 . cases h
theorem Zsq {fs:List (ByteArray × List Nd)}{k:Int}(h:Ky fs=.bad k):k≠0:=by
 unfold Ky at h;split at h
 . injection h with h;rw [<-h];assumption
 . split at h
   . injection h with h;omega
   . cases h
theorem Zk7:∀vs:List (List Nd),(∀p∈vs,Zb p=0)->Vl vs=0
 | [],_=>rfl
 | v :: vs,h=>by
  have h1:=h v (by simp);have h2:=Zk7 vs λp hp=>h p (by simp [hp]);simp [Vl,h1,h2]
theorem Zz3 (vs:List (List Nd))(h:Vl vs=0):rsL (Qc vs)=(Zm9 vs).1/\rsE (Qc vs)=(Zm9 vs).2:=by
 unfold Qc;rw [Z3k h];unfold Zm9;split <;> (split <;> simp_all [rsL,rsE])
theorem Zxu (ss:List (List UInt8))(ms:List NsM)(An Av:Option Addr)(cn cv:Nat)(w:World)(hg:Yy w)(hB:0 < w.heap.size)(hl:ms.length=ss.length)(hl2:ss.length<=1000)(hnd:ss.Nodup)(hsz:∀l∈ss,l.length<=140737488351232)(hnm:∀l∈ss,Zf l=0)
 (hv:∀y∈ms,Zb y.e=0/\Y0 y.e) (hgo:Jz ((ss.map bsL).zip (ms.map NsM.e)) []=0) (hss:Y2 w w.heap.size An ss) (hms:X8 w Av ms) :
 Calls Tryz.prog 110 #[.int .i64 6,.slice An ss.length cn,.slice Av ms.length cv] w λr w'=>Zp w r w' (Ky ((ss.map bsL).zip (ms.map NsM.e))):=by
 have HR:=Ld (Zuq ss ms An Av cn cv w hl hl2 hnd hsz hnm hv hgo hss hms);obtain ⟨q,hq⟩:∃q,q=Ky ((ss.map bsL).zip (ms.map NsM.e)):=⟨_,rfl⟩;rw [<-hq] at HR ⊢;have HNE:=Ld (λk (h:q=.bad k)=>Zsq (hq ▸ h));have HG:=Ld hg;have HGB:=Ld hB;clear hl hl2 hnd hsz hnm hv hgo hss hms hq hg hB;go_enter Tryz.func110,Tryz.ntmps110
 go_wp2_with fail
 refine HR.out.mono ?_;rintro r w1 hr;have HN:=Ld hr;obtain ⟨A,c,e,-,-,-,hb1,-⟩:=hr;have HE:=Ld e;have HT:=Ld (Zji (.slice A (rsL q).length c) (rsE q) w1 (HG.out.below hb1 HGB.out));subst e;clear hb1;go_wp2_with fail
 refine HT.out.mono ?_;rintro r2 w2 ht;have hback:=Zky HN.out HNE.out rfl ht;have HB:=Ld hback;obtain ⟨g1,g2,-⟩:=hback;clear ht HE;cases q with
 | bad k=>
  have hr:=g2 k rfl;subst hr;clear g1 g2;go_wp2_with fail
  exact ⟨rfl,HB.out⟩
 | ok u=>
  obtain ⟨A2,c2',rfl,-⟩:=g1 u rfl;clear g1 g2;go_wp2_with fail
  go_ret
  exact HB.out
theorem Zxr (vn:Value)(ms:List NsM)(Av:Option Addr)(cv:Nat)(w:World)(hg:Yy w)(hB:0 < w.heap.size)(hl2:ms.length<=1000)
 (hv:∀y∈ms,Zb y.e=0) (hok:∀y∈ms,Y0 y.e) (hms:X8 w Av ms) :
 Calls Tryz.prog 110 #[.int .i64 5,vn,.slice Av ms.length cv] w λr w'=>Zp w r w' (Qc (ms.map NsM.e)):=by
 have hR:=Zkz ms Av cv w hms hv hok hl2;have h0:Vl (ms.map NsM.e)=0:=Zk7 _ (by intro p hp;obtain ⟨y,hy,rfl⟩:=List.mem_map.1 hp;exact hv y hy);obtain ⟨q,hq⟩:∃q,q=Qc (ms.map NsM.e):=⟨_,rfl⟩;rw [<-(Zz3 _ h0).1,<-(Zz3 _ h0).2,<-hq] at hR;rw [<-hq];have HR:=Ld hR;have HNE:=Ld (λk (h:q=.bad k)=>Zsr (hq ▸ h));have HG:=Ld hg;have HGB:=Ld hB;clear hl2 hv hok hms hq hg hB h0 hR;go_enter Tryz.func110,Tryz.ntmps110
 go_wp2_with fail
 refine HR.out.mono ?_;rintro r w1 hr;have HN:=Ld hr;obtain ⟨A,c,e,-,-,-,hb1,-⟩:=hr;have HT:=Ld (Zji (.slice A (rsL q).length c) (rsE q) w1 (HG.out.below hb1 HGB.out));subst e;clear hb1;go_wp2_with fail
 refine HT.out.mono ?_;rintro r2 w2 ht;have hback:=Zky HN.out HNE.out rfl ht;have HB:=Ld hback;obtain ⟨g1,g2,-⟩:=hback;clear ht;cases q with
 | bad k=>
  have hr:=g2 k rfl;subst hr;clear g1 g2;go_wp2_with fail
  exact ⟨rfl,HB.out⟩
 | ok u=>
  obtain ⟨A2,c2',rfl,-⟩:=g1 u rfl;clear g1 g2;go_wp2_with fail
  go_ret
  exact HB.out
end Go.Proofs.YtpheiojmcafolaaGreatDoor
