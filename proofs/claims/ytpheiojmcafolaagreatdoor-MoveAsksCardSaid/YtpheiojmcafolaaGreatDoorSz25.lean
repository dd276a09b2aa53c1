/-
 THE WALKS: (*eval.evaluation).made at a set.
-/
import Derived.Test.YtpheiojmcafolaaGreatDoorSz24
set_option maxRecDepth 100000
set_option maxHeartbeats 25600000
namespace Go.Proofs.YtpheiojmcafolaaGreatDoor
open Go.RowKit Go.Sort
theorem Zi3 {α:Type}:∀{l:List (Rs α)} {k:Nat} {vs:List α} {e:Int},Uo (l.take k)=.ok vs->l[k]? = some (.bad e)->Uo l=.bad e
 | [],_,_,_,_,h=>by simp at h
 | r :: l,0,_,_,_,h=>by
  simp at h;subst h;rfl
 | r :: l,k+1,vs,e,h1,h2=>by
  rw [List.take_succ_cons] at h1;cases r with
  | bad j=>cases h1
  | ok v=>
   cases hr:Uo (l.take k) with
   | bad j=>simp [Uo,Rs.bind,hr] at h1
   | ok us=>
    have:=Zi3 hr (by simpa using h2);simp [Uo,Rs.bind,this]
theorem Zfk {α:Type}:∀{l:List (Rs α)} {k:Nat} {vs:List α} {v:α},Uo (l.take k)=.ok vs->l[k]? = some (.ok v)->Uo (l.take (k+1))=.ok (vs ++ [v])
 | [],_,_,_,_,h=>by simp at h
 | r :: l,0,vs,v,h1,h=>by
  simp at h;subst h;have:vs = []:=by simpa [Uo] using h1.symm
  subst this;simp [Uo,Rs.bind]
 | r :: l,k+1,vs,v,h1,h2=>by
  rw [List.take_succ_cons] at h1 ⊢;cases r with
  | bad j=>cases h1
  | ok u=>
   cases hr:Uo (l.take k) with
   | bad j=>simp [Uo,Rs.bind,hr] at h1
   | ok us=>
    have e1:vs=u :: us:=(by simpa [Uo,Rs.bind,hr] using h1.symm);have:=Zfk hr (by simpa using h2);subst e1;simp [Uo,Rs.bind,this]
theorem Zzq (x:Evl)(xb j:Nat)(n:Nd)(ps:List (List Nd))(rest:List Nd)(w:World)(ho:n.op=5)(hn:n.n=ps.length)(hps:ps.length<=199)(hp:∀p∈ps,Ex (.one false) p)(ih:∀p∈ps,Zs x p)(hx:V0 x xb w)(hB:Blk w xb 99 (x.cells j))(hd:x.e.drop j=ps.flatten++rest) :
 Calls Tryz.prog 88 #[.pointer (some ⟨xb,0,none⟩),.agg #[.int .i64 n.op,.int .i64 n.n,.string n.s,.string n.t]] w (Zh x xb (j+ps.flatten.length) ((Uo (ps.map (evX x.es x.q))).bind Qc) w):=by
 obtain ⟨i0,hi,hz0,hz1,hz2⟩:=info_parts Zfd;have hxb:=hB.lt;have t6:(n.op==6)=false:=by simp [ho]
 obtain ⟨Q,hQ⟩:∃Q:List (Rs (List Nd)),Q=ps.map (evX x.es x.q):=⟨_,rfl⟩;have hQl:Q.length=ps.length:=by rw [hQ];simp
 obtain ⟨q',hq'⟩:∃q',q'=(Uo Q).bind Qc:=⟨_,rfl⟩;rw [<-hQ,<-hq'];obtain ⟨jE,hjE⟩:∃jE,jE=j+ps.flatten.length:=⟨_,rfl⟩;rw [<-hjE];have HJE:=Ld hjE;have HQ:=Ld hq';have HC:=Ld (λ(k:Nat) (p:List Nd) (hk:ps[k]? = some p) (W:World) (h1:V0 x xb W) (h2:Blk W xb 99 (x.cells (j+(ps.take k).flatten.length)))=>(show ∃q,Q[k]? = some q/\Calls Tryz.prog 52 #[.pointer (some ⟨xb,0,none⟩)] W (NxG x xb (j+(ps.take (k+1)).flatten.length) q W) from by
  have hm:=mG hk;have hd':x.e.drop (j+(ps.take k).flatten.length)=p++((ps.drop (k+1)).flatten++rest):=by
   rw [<-List.drop_drop,hd,J0 hk];simp
  refine ⟨evX x.es x.q p,by rw [hQ];simp [hk],?_⟩;have:=(ih p hm).go (hp p hm) h1 h2 hd';rw [Vp hk,<-Nat.add_assoc];exact this))
 have HO:=Ld ho;have hN0:Jj (w.alloc (.cells #[.int .i64 n.op,.int .i64 n.n,.string n.s,.string n.t] 37)) w.heap.size 0 n:=by
  have:=Znn w n;exact ⟨this.c0,this.c1,this.c2,this.c3⟩
 have HN0:=Ld hN0;have HX:=Ld hx;have HB0:=Ld (hB.alloc (.cells #[.int .i64 n.op,.int .i64 n.n,.string n.s,.string n.t] 37));have HO0:=Ld ((Yk.refl w.heap.size xb w).alloc (nL _) (.cells #[.int .i64 n.op,.int .i64 n.n,.string n.s,.string n.t] 37));have HNN:=Ld hn;have HQL:=Ld hQl;clear hN0 hx hB hd ih hp hQ hq' ho hn hQl hjE;go_enter Tryz.func88,Tryz.ntmps88
 go_wp2_with fail
 go_loopw [5,6,9] (λnv pv iv wr=>∃(ms:List NsM),nv=.slice none 0 0/\iv=.int .i64 (ms.length:Nat)/\ms.length<=ps.length/\Hid (Uo (Q.take ms.length)=.ok (ms.map NsM.e)) /\
  Hid (wr.ownsRow (w.heap.size+1) 22 1 pv ms.length (Zr NsM.cells ms))/\Hid (∀y∈ms,Jk (G3 xb pv (.slice none 0 0)) wr y/\Zb y.e=0/\Y0 y.e) /\
  Hid (Blk wr xb 99 (x.cells (j+(ps.take ms.length).flatten.length)))/\Hid (Jj wr w.heap.size 0 n)/\Yk w.heap.size xb w wr/\w.heap.size+1<=wr.heap.size) (λ_ _ iv _=>ps.length - (intOf iv).toNat)
 case atStart=>
  exact ⟨[],rfl,rfl,by simp,by show _=_;simp [Uo],World.ownsRow_nil _ _ _ _,(λy hy=>by cases hy),HB0.out,HN0.out,HO0.out,by simp⟩
 case round=>
  obtain ⟨ms,rfl,rfl,hml,HA,HR,HF,HB,HN,hor,hzr⟩:=hrel;have n0:wr.cell? ⟨w.heap.size,0,none⟩=some (.int .i64 n.op):=HN.out.c0;have hxr:V0 x xb wr:=HX.out.keep (hor.below (Nat.le_of_lt hxb) (nL _));have HXR:=Ld hxr;clear hxr;by_cases hlt:ms.length < ps.length
  . have tl:decide ((ms.length:Int) < n.n)=true:=(by rw [HNN.out];simp;omega);obtain ⟨p,hpk⟩:∃p,ps[ms.length]? = some p:=⟨_,gE hlt⟩;obtain ⟨q,hq,hcall⟩:=HC.out ms.length p hpk wr HXR.out HB.out;have HCL:=Ld hcall;have HQK:=Ld hq;obtain ⟨Ap,cp,hpv,hcp⟩:=Vt HR.out;subst hpv;clear hpk hcall hq;go_wp2_with fail
    refine HCL.out.mono ?_;rintro r w2 ⟨hq1,hq2,ho2⟩;have hor2:Yk w.heap.size xb w w2:=hor.trans (ho2.mono hor.size);cases q with
    | bad k=>
     have hr:=hq2 k rfl;subst hr;have hq5:q'=.bad k:=(by rw [HQ.out,Zi3 HA.out HQK.out];rfl);have HP:=Ld (Zh.bad (x:=x) (xb:=xb) (j:=jE) (k:=k) hor2);clear hq1 hq2 ho2 hor2;subst hq5;go_wp2_with fail
     exact ⟨rfl,HP.out⟩
    | ok v=>
     obtain ⟨A2,c2,rfl,hv2,hof2,hx2,hB2⟩:=hq1 v rfl;have hzx2:=ho2.size;have hg12:=J4 ho2;have hpb:∀q,(Value.slice Ap ms.length cp).ownBlock=some q->w.heap.size+1<=q/\q < wr.heap.size:=λq hq=>Yf HR.out hq;have HO3:Hid ((w2.alloc (.cells #[.slice A2 v.length c2] 22)).ownsRow (w.heap.size+1) 22 1 (.slice Ap ms.length cp) ms.length (Zr NsM.cells ms)):=
      Zu (HR.out.kept hg12 (.inr (λh=>by have:=(hpb _ h).1;omega))) (by (repeat (first | assumption | exact bR | apply bD | apply Za | refine bA ?_ _)))
     have HFR:Hid (Jk (G3 xb (.slice Ap ms.length cp) (.slice none 0 0)) w2 ⟨A2,c2,v⟩):=⟨(λhne=>by
      obtain ⟨b,o,e1,e2,e3,e4⟩:=hof2 hne;refine ⟨b,o,e1,e2,λhh=>e3 ?_,e4⟩;rcases hh with h | h | h
      . exact ⟨by omega,by omega⟩
      . have:=hpb b h;exact ⟨by omega,by omega⟩
      . cases h),hv2.le,hv2.max⟩
     have HVO:Hid (Zb v=0/\Y0 v):=⟨hv2.ok,hv2.nd⟩;have HB2:=Ld hB2;have HN2:=Ld (HN.out.only ho2 (by omega) (by omega));have HOR2:=Ld hor2;clear hq1 hq2 hv2 hof2 hx2 hB2 ho2 hor2;go_wp2_with (at_builtin;refine wpList_append_own_at _ rfl (.tmp 35) (.tmp 38) 152 rfl (w.heap.size+1) 22 i0 _ 1 24 Tryz.underlying152 hi hz0 hz1 hz2 rfl (by omega) _ ms.length (Zr NsM.cells ms) rfl HO3.out ⟨w2.heap.size,0,none⟩ 1 1 [.slice A2 v.length c2] rfl rfl (cell_one_new _ _ _) (by simp [Value.oneCell']) (by unfold maxLen;omega) (by omega) (by simp;omega) ?_;intro pv6 w6 hown6 hgrow6 _ hloc6;obtain ⟨Ap6,cp6,hpv6,hcp6⟩:=Vt hown6;subst hpv6)
     have hz6:w2.heap.size+1<=w6.heap.size:=(by have:=hgrow6.size;simpa using this);have hk6:∀k,k < w2.heap.size->(Value.slice Ap ms.length cp).ownBlock≠some k->w6.heap[k]? = w2.heap[k]?:=λk hk hne=>(hgrow6.block k (by simp;omega) (λe=>hne e.symm)).trans (RowKit.Below.heap_alloc _ _ _ hk);have HB6:Hid (Blk w6 xb 99 (x.cells (j+(ps.take (ms.length+1)).flatten.length))):=(hk6 xb (by omega) (λh=>by have:=(hpb _ h).1;omega)).trans HB2.out;have HO6:Hid (w6.ownsRow (w.heap.size+1) 22 1 (.slice Ap6 (ms.length+1) cp6) (ms ++ [(⟨A2,c2,v⟩:NsM)]).length (Zr NsM.cells (ms ++ [(⟨A2,c2,v⟩:NsM)]))):=by
      show World.ownsRow _ _ _ _ _ _ _;rw [List.length_append,Q1];exact hown6
     have hg':∀q,q < w2.heap.size->G3 xb (.slice Ap6 (ms.length+1) cp6) (.slice none 0 0) q->G3 xb (.slice Ap ms.length cp) (.slice none 0 0) q:=λq hq h=>by
      rcases h with h | h | h
      . exact .inl h
      . rcases hloc6 with h2 | h2
        . exact .inr (.inl (h2 ▸ h))
        . rw [h2] at h;injection h with h;simp at h;omega
      . exact .inr (.inr h)
     have HF6:Hid (∀y∈ms ++ [(⟨A2,c2,v⟩:NsM)],Jk (G3 xb (.slice Ap6 (ms.length+1) cp6) (.slice none 0 0)) w6 y/\Zb y.e=0/\Y0 y.e):=λy hy=>by
      rcases List.mem_append.1 hy with hy | hy
      . exact ⟨((HF.out y hy).1.turn hzx2 (λk hk hg=>hg12.block k hk (λh=>by injection h with h;exact hg (.inl h))) (λ_ _ h=>h)).turn (by omega) (λk hk hg=>hk6 k hk (λh=>hg (.inr (.inl h)))) hg',(HF.out y hy).2⟩
      . simp at hy;subst hy;exact ⟨HFR.out.turn (by omega) (λk hk hg=>hk6 k hk (λh=>hg (.inr (.inl h)))) hg',HVO.out⟩
     have HA6:Hid (Uo (Q.take (ms.length+1))=.ok ((ms ++ [(⟨A2,c2,v⟩:NsM)]).map NsM.e)):=by
      show _=_;rw [Zfk HA.out HQK.out,List.map_append];rfl
     have HN6:Hid (Jj w6 w.heap.size 0 n):=by
      have hc:∀i,w6.cell? ⟨w.heap.size,i,none⟩=w2.cell? ⟨w.heap.size,i,none⟩:=λi=>World.cell?_of_block (a:=⟨w.heap.size,i,none⟩) (hk6 w.heap.size (by omega) (λh=>by have:=(hpb _ h).1;omega));exact ⟨(hc _).trans HN2.out.c0,(hc _).trans HN2.out.c1,(hc _).trans HN2.out.c2,(hc _).trans HN2.out.c3⟩
     have hor6:Yk w.heap.size xb w w6:=HOR2.out.trans ⟨hgrow6.os,hgrow6.tape,hgrow6.output,by omega,λk hk hne=>hk6 k (by have:=HOR2.out.size;omega) (λh=>by have:=(hpb _ h).1;omega)⟩;have HL6:(ms ++ [(⟨A2,c2,v⟩:NsM)]).length=ms.length+1:=(by simp);have HB7:Hid (Blk w6 xb 99 (x.cells (j+(ps.take (ms ++ [(⟨A2,c2,v⟩:NsM)]).length).flatten.length))):=(by rw [HL6];exact HB6);have HA7:Hid (Uo (Q.take (ms ++ [(⟨A2,c2,v⟩:NsM)]).length)=.ok ((ms ++ [(⟨A2,c2,v⟩:NsM)]).map NsM.e)):=(by rw [HL6];exact HA6);clear hown6 hgrow6 hloc6 hg' hk6 HL6 HA6 HB6 hg12;go_wp2_with fail
     exact ⟨⟨ms ++ [⟨A2,c2,v⟩],rfl,by first | rfl | (simp;done) | go_num,by first | (simp;done) | (simp;omega),HA7,by simpa using HO6,by simpa using HF6,HB7,HN6,hor6,by omega⟩,by simp [intOf];omega⟩
  . have tl:decide ((ms.length:Int) < n.n)=false:=(by rw [HNN.out];simp;omega);have hle:ps.length<=ms.length:=(by omega);obtain ⟨-,Ap,cp,hpv,-,-,hps'⟩:=Y1 Zbv HR.out;subst hpv;have hns:X8 wr Ap ms:=⟨hps',λy hy=>(HF.out y hy).1.good⟩;have hcol:Calls Tryz.prog 110 #[.int .i64 n.op,.slice none 0 0,.slice Ap ms.length cp] wr λr w'=>Zp wr r w' (Qc (ms.map NsM.e)):=by
     rw [HO.out];exact Zxr (.slice none 0 0) ms Ap cp wr HXR.out.err (Nat.lt_of_lt_of_le HXR.out.errB (Nat.le_trans (Nat.le_of_lt hxb) hor.size)) (by omega) (λy hy=>(HF.out y hy).2.1) (λy hy=>(HF.out y hy).2.2) hns
    have hq3:q'=Qc (ms.map NsM.e):=by
     have:=HA.out;rw [List.take_of_length_le (by rw [HQL.out];exact hle)] at this;rw [HQ.out,this];rfl
    rw [<-hq3] at hcol;have HCO:=Ld hcol;have HBE:Hid (Blk wr xb 99 (x.cells jE)):=by
     have:=HB.out;rw [List.take_of_length_le hle,<-HJE.out] at this;exact this
    have HOR:=Ld hor;clear hps' hns hcol hq3 HQ;go_wp2_with fail
    refine HCO.out.mono ?_;rintro r w3 hr3;have hpost:Zh x xb jE q' w r w3:=by
     obtain ⟨h1,h2,h3⟩:=hr3;have ho3:Yk wr.heap.size xb wr w3:=Yk.of_below h3 (nL _);refine ⟨λv hv=>?_,h2,HOR.out.trans (ho3.mono HOR.out.size)⟩;obtain ⟨A,c,e,g1,g2,g3,_,g5⟩:=h1 v hv;refine ⟨A,c,e,g1,g2,λhne=>?_,HBE.out.below h3 (by omega)⟩;obtain ⟨b,o,e1,e2,e3⟩:=g3 hne;exact ⟨b,o,e1,e2,by have:=g5 b o e1;unfold gx;omega,e3⟩
    have HP:=Ld hpost;obtain ⟨g1,g2,-⟩:=hr3;clear hpost;cases q' with
    | bad k=>
     have hr:=g2 k rfl;subst hr;clear g1 g2;go_wp2_with fail
     exact ⟨rfl,HP.out⟩
    | ok u=>
     obtain ⟨A2,c2',rfl,-⟩:=g1 u rfl;clear g1 g2;go_wp2_with fail
     go_ret
     exact HP.out
structure NmS (xb a be oe:Nat)(x:Evl)(s:ByteArray)(W:World):Prop where
 s0:W.cell? ⟨xb,8,none⟩=some (.slice (some ⟨be,oe,none⟩) x.e.length x.eca)
 s1:W.cell? ⟨xb,9,none⟩=some (.int .i64 a)
 s2:W.cell? ⟨be,oe+a*4+2,none⟩=some (.string s)
theorem NmS.keep {xb a be oe:Nat}{x:Evl}{s:ByteArray}{W W':World}(h:NmS xb a be oe x s W)(h1:W'.heap[xb]? = W.heap[xb]?)(h2:W'.heap[be]? = W.heap[be]?):NmS xb a be oe x s W':=
 ⟨(World.cell?_of_block (a:=⟨xb,8,none⟩) h1).trans h.s0,(World.cell?_of_block (a:=⟨xb,9,none⟩) h1).trans h.s1,(World.cell?_of_block (a:=⟨be,oe+a*4+2,none⟩) h2).trans h.s2⟩
theorem Zyd (x:Evl)(xb j:Nat)(n:Nd)(ps:List (List Nd))(rest:List Nd)(w:World)(ho:n.op=6)(hn:n.n=ps.length)(hps:ps.length<=199)(hp:∀p∈ps,Ex (.one true) p)(ih:∀p∈ps,Zs x p.tail)(hx:V0 x xb w)(hB:Blk w xb 99 (x.cells j))(hd:x.e.drop j=ps.flatten++rest)
 (hnd:(ps.map λp=>(sH p).toList).Nodup) (hnm:∀p∈ps,Zf (sH p).toList=0) (hgo:∀vs:List (List Nd),vs.length=ps.length->(∀v∈vs,Zb v=0)->Jz ((ps.map sH).zip vs) []=0) :
 Calls Tryz.prog 88 #[.pointer (some ⟨xb,0,none⟩),.agg #[.int .i64 n.op,.int .i64 n.n,.string n.s,.string n.t]] w (Zh x xb (j+ps.flatten.length) ((Uo (ps.map λp=>evX x.es x.q p.tail)).bind λvs=>Ky ((ps.map sH).zip vs)) w):=by
 obtain ⟨i0,hi,hz0,hz1,hz2⟩:=info_parts Zfd;obtain ⟨j0,hj,hy0,hy1,hy2⟩:=info_parts Zf2;have hxb:=hB.lt;have t6:(n.op==6)=true:=by simp [ho]
 obtain ⟨Q,hQ⟩:∃Q:List (Rs (List Nd)),Q=ps.map (λp=>evX x.es x.q p.tail):=⟨_,rfl⟩;have hQl:Q.length=ps.length:=by rw [hQ];simp
 obtain ⟨q',hq'⟩:∃q',q'=(Uo Q).bind λvs=>Ky ((ps.map sH).zip vs):=⟨_,rfl⟩;rw [<-hQ,<-hq'];obtain ⟨jE,hjE⟩:∃jE,jE=j+ps.flatten.length:=⟨_,rfl⟩;rw [<-hjE];have HJE:=Ld hjE;have HQ:=Ld hq';have hpf:∀p∈ps,∃f,p=f :: p.tail/\sH p=f.s:=λp hm=>by
  obtain ⟨y,r,e,-⟩:=Jb (hp p hm);exact ⟨y,by rw [e];rfl,by rw [e];rfl⟩
 have hdk:∀k p,ps[k]? = some p->x.e.drop (j+(ps.take k).flatten.length)=p++((ps.drop (k+1)).flatten++rest):=λk p hk=>by
  rw [<-List.drop_drop,hd,J0 hk];simp
 have HC:=Ld (λ(k:Nat) (p:List Nd) (hk:ps[k]? = some p) (W:World) (h1:V0 x xb W) (h2:Blk W xb 99 (x.cells (j+(ps.take k).flatten.length+1)))=>(show ∃q,Q[k]? = some q/\Calls Tryz.prog 52 #[.pointer (some ⟨xb,0,none⟩)] W (NxG x xb (j+(ps.take (k+1)).flatten.length) q W) from by
  have hm:=mG hk;obtain ⟨f,hf,-⟩:=hpf p hm;have hd':x.e.drop (j+(ps.take k).flatten.length+1)=p.tail++((ps.drop (k+1)).flatten++rest):=by
   rw [<-List.drop_drop,hdk k p hk,hf];simp
  refine ⟨evX x.es x.q p.tail,by rw [hQ];simp [hk],?_⟩;have:=(ih p hm).go (Zap (hp p hm)).1 h1 h2 hd';have e:j+(ps.take (k+1)).flatten.length=j+(ps.take k).flatten.length+1+p.tail.length:=by
   have:p.length=p.tail.length+1:=(by rw [hf];simp);rw [Vp hk];omega
  rw [e];exact this))
 have HH:=Ld (λ(k:Nat) (p:List Nd) (hk:ps[k]? = some p)=>(show ∃f:Nd,f.s=sH p/\x.e[j+(ps.take k).flatten.length]? = some f from by
  obtain ⟨f,hf,hs⟩:=hpf p (mG hk);refine ⟨f,hs.symm,?_⟩;have:=congrArg (λl=>l[0]?) (hdk k p hk);rw [hf] at this;simpa [List.getElem?_drop] using this))
 have HO:=Ld ho;have hN0:Jj (w.alloc (.cells #[.int .i64 n.op,.int .i64 n.n,.string n.s,.string n.t] 37)) w.heap.size 0 n:=by
  have:=Znn w n;exact ⟨this.c0,this.c1,this.c2,this.c3⟩
 have HN0:=Ld hN0;have HX:=Ld hx;have HB0:=Ld (hB.alloc (.cells #[.int .i64 n.op,.int .i64 n.n,.string n.s,.string n.t] 37));have HO0:=Ld ((Yk.refl w.heap.size xb w).alloc (nL _) (.cells #[.int .i64 n.op,.int .i64 n.n,.string n.s,.string n.t] 37));have HNN:=Ld hn;have HQL:=Ld hQl;have HEL:=Ld hx.el;have hsz:∀p∈ps,(sH p).toList.length<=140737488351232:=λp hm=>by
  obtain ⟨f,hf,hs⟩:=hpf p hm;obtain ⟨k,hk⟩:=List.getElem?_of_mem hm;have hfe:f∈x.e:=List.mem_of_mem_drop (i:=j+(ps.take k).flatten.length) (by rw [hdk k p hk,hf];simp);rw [hs,Zk];exact (hx.ek f hfe).1
 have HSZ:=Ld hsz;have HND:=Ld hnd;have HNM:=Ld hnm;have HGO:=Ld hgo;clear hN0 hx hB hd ih hp hQ hq' ho hn hQl hjE hpf hdk hsz hnd hnm hgo;go_enter Tryz.func88,Tryz.ntmps88
 go_wp2_with fail
 go_loopw [5,6,9] (λnv pv iv wr=>∃(ms:List NsM) (ns:List (List UInt8)) (a:Nat),iv=.int .i64 (ms.length:Nat)/\ms.length<=ps.length/\ns.length<=ms.length/\Hid (a=j+(ps.take ms.length).flatten.length)/\Hid (ns=(ps.take ms.length).map λp=>(sH p).toList)/\Hid (Uo (Q.take ms.length)=.ok (ms.map NsM.e)) /\
  Hid (wr.ownsRow (w.heap.size+1) 22 1 pv ms.length (Zr NsM.cells ms))/\Hid (wr.ownsRow (w.heap.size+1) 9 1 nv ns.length (ns.map encStr))/\Hid (∀b,pv.ownBlock=some b->nv.ownBlock≠some b)/\Hid (∀y∈ms,Jk (G3 xb pv nv) wr y/\Zb y.e=0/\Y0 y.e) /\
  Hid (Blk wr xb 99 (x.cells a))/\Hid (Jj wr w.heap.size 0 n)/\Yk w.heap.size xb w wr/\w.heap.size+1<=wr.heap.size) (λ_ _ iv _=>ps.length - (intOf iv).toNat)
 case atStart=>
  exact ⟨[],[],j,rfl,by simp,by simp,by show _=_;simp,by show _=_;simp,by show _=_;simp [Uo],World.ownsRow_nil _ _ _ _,World.ownsRow_nil _ _ _ _,(λb hb=>by cases hb),(λy hy=>by cases hy),HB0.out,HN0.out,HO0.out,by simp⟩
 case round=>
  obtain ⟨ms,ns,a,rfl,hml,hnl,HAT,HNS,HA,HR,HON,HDJ,HF,HB,HN,hor,hzr⟩:=hrel;have n0:wr.cell? ⟨w.heap.size,0,none⟩=some (.int .i64 n.op):=HN.out.c0;have hxr:V0 x xb wr:=HX.out.keep (hor.below (Nat.le_of_lt hxb) (nL _));have HXR:=Ld hxr;clear hxr;by_cases hlt:ms.length < ps.length
  . have tl:decide ((ms.length:Int) < n.n)=true:=(by rw [HNN.out];simp;omega);obtain ⟨p,hpk⟩:∃p,ps[ms.length]? = some p:=⟨_,gE hlt⟩;obtain ⟨f,hfs,hfe⟩:=HH.out ms.length p hpk;rw [<-HAT.out] at hfe;have hil:a < x.e.length:=(List.getElem?_eq_some_iff.1 hfe).1;obtain ⟨be,oe,hea,hbe,hcs⟩:=HXR.out.ex.at_ hil;obtain ⟨-,-,f2,-⟩:=hcs a f hfe;have hS0:NmS xb a be oe x f.s wr.drew:=⟨by rw [<-hea];exact HB.out.cell 8,HB.out.cell 9,f2⟩;have hia:=Vc be oe x.e.length x.eca a hil;obtain ⟨Ap,cp,hpv,hcp⟩:=Vt HR.out;subst hpv;obtain ⟨An,cn,hnv,hcn⟩:=Vt HON.out;subst hnv;have hae:a<=200:=(by have:=HEL.out;omega);have hbw:be < w.heap.size:=Nat.lt_trans hbe hxb;have hbd:RowKit.Below wr.heap.size wr wr.drew:=(RowKit.Below.refl _ _).drew;have hrd:=Zu HR.out hbd;have hond:=Zu HON.out hbd;have hfd:∀y∈ms,Jk (G3 xb (.slice Ap ms.length cp) (.slice An ns.length cn)) wr.drew y/\Zb y.e=0/\Y0 y.e:=λy hy=>⟨(HF.out y hy).1.turn (nL _) (λ_ _ _=>rfl) (λ_ _ h=>h),(HF.out y hy).2⟩;have hBd:=HB.out.drew;have hNd:=Jj.drew HN.out;have hod:=hor.drew;have hxd:=HXR.out.drew;have hzd:w.heap.size+1<=wr.drew.heap.size:=hzr;have HPK:=Ld hpk;have HFS:=Ld hfs;have HS0:=Ld hS0;have HHH:Hid (∀w',Exists (λu:World=>w'=u)):=λw'=>⟨w',rfl⟩;clear hpk hfs hfe hcs hea f2 hS0 hbd;go_wp2_with fail
    refine Zg (S:=NmS xb a be oe x f.s) [(0,false),(1,false),(2,false),(3,false),(4,false),(5,false),(6,false),(7,false),(8,false),(9,false),(10,false),(11,false),(12,true),(13,true),(14,false)] (by kernel_rfl) (by kernel_rfl) (λ_ _ _ _ _ h=>h) HS0.out (λhW'=>?_);clear n0 hor hzr HR HON HF HB HN HXR HS0;generalize hwd:wr.drew=wd at hrd hond hfd hBd hNd hod hxd hzd hW' ⊢;clear hwd;have HR:=Ld hrd;have HON:=Ld hond;have HF:=Ld hfd;have HB:=Ld hBd;have HN:=Ld hNd;have HX2:=Ld hxd;have HSW:=Ld hW';clear hrd hond hfd hBd hNd hxd hW';simp only [Yl,List.filterMap_cons,List.filterMap_nil,List.getElem?_cons_zero,List.getElem?_cons_succ,Option.map_some];(repeat ((first | (refine Ze (v:=?_) (by rfl) ?_ ?_;rotate_left;(focus (intro W hW;obtain ⟨s0,s1,s2⟩:=hW;go_simp;try with_reducible rfl))) | refine Zd (by rfl) ?_);simp only [Act.put,pA,pB,pC]))
    refine Zc (λK hK=>?_);go_simp
    have hzb:xb < wd.heap.size:=(by omega);have hnb:∀q,(Value.slice An ns.length cn).ownBlock=some q->w.heap.size+1<=q/\q < wd.heap.size:=λq hq=>Yf HON.out hq;have hpb:∀q,(Value.slice Ap ms.length cp).ownBlock=some q->w.heap.size+1<=q/\q < wd.heap.size:=λq hq=>Yf HR.out hq;have hS1:NmS xb a be oe x f.s (wd.alloc (.cells #[.string f.s] 9)):=HSW.out.keep (RowKit.Below.heap_alloc _ _ _ hzb) (RowKit.Below.heap_alloc _ _ _ (by omega));refine hK _ _ hS1 ?_;clear hK K;have ho1:Hid ((wd.alloc (.cells #[.string f.s] 9)).ownsRow (w.heap.size+1) 9 1 (.slice An ns.length cn) ns.length (ns.map encStr)):=Zu HON.out (by (repeat (first | assumption | exact bR | apply bD | apply Za | refine bA ?_ _)));refine Ug (by rfl) (.tmp 14) (.tmp 26) 23 rfl (w.heap.size+1) 9 j0 _ 1 16 Tryz.underlying23 hj hy0 hy1 hy2 rfl (by omega) (.slice An ns.length cn) ns.length (ns.map encStr) rfl ho1.out ⟨wd.heap.size,0,none⟩ 1 1 [.string f.s] rfl rfl (cell_one_new _ _ _) (by simp [Value.oneCell']) (by unfold maxLen;omega) (by omega) (by simp;omega) ?_;intro nv2 wB hown2 hgrow2 _ hloc2;obtain ⟨An2,cn2,hnv2,hcn2⟩:=Vt hown2;subst hnv2;have hzB:wd.heap.size+1<=wB.heap.size:=(by have:=hgrow2.size;simpa using this);have hkB:∀k,k < wd.heap.size->(Value.slice An ns.length cn).ownBlock≠some k->wB.heap[k]? = wd.heap[k]?:=λk hk hne=>(hgrow2.block k (by simp;omega) (λe=>hne e.symm)).trans (RowKit.Below.heap_alloc _ _ _ hk);have HBB:Hid (Blk wB xb 99 (x.cells a)):=(hkB xb hzb (λh=>by have:=(hnb _ h).1;omega)).trans HB.out;have hSB:NmS xb a be oe x f.s wB:=HSW.out.keep (hkB xb hzb (λh=>by have:=(hnb _ h).1;omega)) (hkB be (by omega) (λh=>by have:=(hnb _ h).1;omega));refine ⟨hSB,?_⟩;(repeat ((first | (refine Ze (v:=?_) (by rfl) ?_ ?_;rotate_left;(focus (intro W hW;obtain ⟨s0,s1,s2⟩:=hW;go_simp;try with_reducible rfl))) | refine Zd (by rfl) ?_);simp only [Act.put,pA,pB,pC]))
    refine Yj ?_;clear hSB hS1;have c9:wB.cell? ⟨xb,9,none⟩=some (.int .i64 a):=HBB.out.cell 9;have f9:wB.frozen? ⟨xb,9,none⟩=false:=HBB.out.frozen 9;have hi1:IntKind.wrap .i64 ((a:Int)+1)=(a:Int)+1:=IntWalk.i64_in _ (by omega);have HOB:Hid (wB.ownsRow (w.heap.size+1) 22 1 (.slice Ap ms.length cp) ms.length (Zr NsM.cells ms)):=
     (Zu HR.out (by (repeat (first | assumption | exact bR | apply bD | apply Za | refine bA ?_ _)):RowKit.Below wd.heap.size wd (wd.alloc (.cells #[.string f.s] 9)))).kept hgrow2 (by
      cases hh:(Value.slice Ap ms.length cp).ownBlock with
      | none=>exact .inl rfl
      | some q=>exact .inr (λh=>HDJ.out q hh h.symm))
    have HONB:Hid (wB.ownsRow (w.heap.size+1) 9 1 (.slice An2 (ns.length+1) cn2) (ns ++ [f.s.toList]).length ((ns ++ [f.s.toList]).map encStr)):=by
     show World.ownsRow _ _ _ _ _ _ _;rw [List.map_append,List.map_singleton,Zcr,List.length_append];exact hown2
    have HDB:Hid (∀q,(Value.slice Ap ms.length cp).ownBlock=some q->(Value.slice An2 (ns.length+1) cn2).ownBlock≠some q):=λq hq h=>by
     rcases hloc2 with h2 | h2
     . exact HDJ.out q hq (h2 ▸ h)
     . rw [h2] at h;injection h with h;have:=(hpb q hq).2;simp at h;omega
    have HFB:Hid (∀y∈ms,Jk (G3 xb (.slice Ap ms.length cp) (.slice An2 (ns.length+1) cn2)) wB y/\Zb y.e=0/\Y0 y.e):=λy hy=>⟨(HF.out y hy).1.turn (by omega) (λk hk hg=>hkB k hk (λh=>hg (.inr (.inr h)))) (λq hq h=>by
     rcases h with h | h | h
     . exact .inl h
     . exact .inr (.inl h)
     . rcases hloc2 with h2 | h2
       . exact .inr (.inr (h2 ▸ h))
       . rw [h2] at h;injection h with h;simp at h;omega),(HF.out y hy).2⟩
    have HNB:Hid (Jj wB w.heap.size 0 n):=by
     have hc:∀i,wB.cell? ⟨w.heap.size,i,none⟩=wd.cell? ⟨w.heap.size,i,none⟩:=λi=>World.cell?_of_block (a:=⟨w.heap.size,i,none⟩) (hkB w.heap.size (by omega) (λh=>by have:=(hnb _ h).1;omega));exact ⟨(hc _).trans HN.out.c0,(hc _).trans HN.out.c1,(hc _).trans HN.out.c2,(hc _).trans HN.out.c3⟩
    have hoB:Yk w.heap.size xb w wB:=hod.trans ⟨hgrow2.os,hgrow2.tape,hgrow2.output,by omega,λk hk _=>hkB k (by omega) (λh=>by have:=(hnb _ h).1;omega)⟩;have HOO:=Ld hoB;clear hown2 hgrow2 hloc2 ho1 hkB hoB hod;go_wp2_with fail
    obtain ⟨wX,hwX⟩:∃wX,wB.setCell ⟨xb,9,none⟩ (.int .i64 ((a:Int)+1))=wX:=⟨_,rfl⟩;have HBX:Hid (Blk wX xb 99 (x.cells (a+1))):=(by rw [<-hwX];exact Evl.step HBB.out);have hgX:wB.grownBy wX (some xb):=(by rw [<-hwX];exact ⟨rfl,rfl,rfl,by simp [World.setCell],λk hk hne=>RowKit.Below.heap_setCell _ _ _ _ (λh=>hne (by simp at h;rw [h]))⟩);have hoX:Yk w.heap.size xb w wX:=(by rw [<-hwX];exact HOO.out.setCell (Or.inl rfl) _);rw [hwX];clear hwX c9 f9;have hzX:=hgX.size;have HOX:Hid (wX.ownsRow (w.heap.size+1) 22 1 (.slice Ap ms.length cp) ms.length (Zr NsM.cells ms)):=HOB.out.kept hgX (.inr (λh=>by have:=(hpb _ h).1;omega));have hnb2:∀q,(Value.slice An2 (ns.length+1) cn2).ownBlock=some q->w.heap.size+1<=q/\q < wB.heap.size:=λq hq=>Yf HONB.out hq;have HONX:Hid (wX.ownsRow (w.heap.size+1) 9 1 (.slice An2 (ns.length+1) cn2) (ns ++ [f.s.toList]).length ((ns ++ [f.s.toList]).map encStr)):=HONB.out.kept hgX (.inr (λh=>by have:=(hnb2 _ h).1;omega));have HFX:Hid (∀y∈ms,Jk (G3 xb (.slice Ap ms.length cp) (.slice An2 (ns.length+1) cn2)) wX y/\Zb y.e=0/\Y0 y.e):=λy hy=>⟨(HFB.out y hy).1.turn hgX.size (λk hk hg=>hgX.block k hk (λh=>by injection h with h;exact hg (.inl h))) (λ_ _ h=>h),(HFB.out y hy).2⟩;have HNX:Hid (Jj wX w.heap.size 0 n):=by
     have hc:∀i,wX.cell? ⟨w.heap.size,i,none⟩=wB.cell? ⟨w.heap.size,i,none⟩:=λi=>World.cell?_of_block (a:=⟨w.heap.size,i,none⟩) (hgX.block w.heap.size (by omega) (λh=>by injection h with h;omega));exact ⟨(hc _).trans HNB.out.c0,(hc _).trans HNB.out.c1,(hc _).trans HNB.out.c2,(hc _).trans HNB.out.c3⟩
    have hxX:V0 x xb wX:=HX.out.keep (hoX.below (Nat.le_of_lt hxb) (nL _));obtain ⟨q,hq,hcall⟩:=HC.out ms.length p HPK.out wX hxX (by rw [<-HAT.out];exact HBX.out);have HCL:=Ld hcall;have HQK:=Ld hq;have HOX2:=Ld hoX;clear hcall hq hxX HOB HONB HFB HNB hgX HBB HOO hoX HBX HR HON HF HB HN HX2 HSW;refine HCL.out.mono ?_;rintro r w2 ⟨hq1,hq2,ho2⟩;have hor2:Yk w.heap.size xb w w2:=HOX2.out.trans (ho2.mono HOX2.out.size);cases q with
    | bad k=>
     have hr:=hq2 k rfl;subst hr;have hq5:q'=.bad k:=(by rw [HQ.out,Zi3 HA.out HQK.out];rfl);have HP:=Ld (Zh.bad (x:=x) (xb:=xb) (j:=jE) (k:=k) hor2);clear hq1 hq2 ho2 hor2;subst hq5;go_wp2_with fail
     exact ⟨rfl,HP.out⟩
    | ok v=>
     obtain ⟨A2,c2,rfl,hv2,hof2,hx2,hB2⟩:=hq1 v rfl;have hzx2:=ho2.size;have hg12:=J4 ho2;have hnbX:∀q,(Value.slice An2 (ns.length+1) cn2).ownBlock=some q->w.heap.size+1<=q/\q < wX.heap.size:=λq hq=>Yf HONX.out hq;have hpbX:∀q,(Value.slice Ap ms.length cp).ownBlock=some q->w.heap.size+1<=q/\q < wX.heap.size:=λq hq=>Yf HOX.out hq;have HO3:Hid ((w2.alloc (.cells #[.slice A2 v.length c2] 22)).ownsRow (w.heap.size+1) 22 1 (.slice Ap ms.length cp) ms.length (Zr NsM.cells ms)):=
      Zu (HOX.out.kept hg12 (.inr (λh=>by have:=(hpbX _ h).1;omega))) (by (repeat (first | assumption | exact bR | apply bD | apply Za | refine bA ?_ _)))
     have HON3:Hid ((w2.alloc (.cells #[.slice A2 v.length c2] 22)).ownsRow (w.heap.size+1) 9 1 (.slice An2 (ns.length+1) cn2) (ns ++ [f.s.toList]).length ((ns ++ [f.s.toList]).map encStr)):=
      Zu (HONX.out.kept hg12 (.inr (λh=>by have:=(hnbX _ h).1;omega))) (by (repeat (first | assumption | exact bR | apply bD | apply Za | refine bA ?_ _)))
     have HFR:Hid (Jk (G3 xb (.slice Ap ms.length cp) (.slice An2 (ns.length+1) cn2)) w2 ⟨A2,c2,v⟩):=⟨(λhne=>by
      obtain ⟨b,o,e1,e2,e3,e4⟩:=hof2 hne;refine ⟨b,o,e1,e2,λhh=>e3 ?_,e4⟩;rcases hh with h | h | h
      . exact ⟨by omega,by omega⟩
      . have:=hpbX b h;exact ⟨by omega,by omega⟩
      . have:=hnbX b h;exact ⟨by omega,by omega⟩),hv2.le,hv2.max⟩
     have HVO:Hid (Zb v=0/\Y0 v):=⟨hv2.ok,hv2.nd⟩;have HB2:=Ld hB2;have HN2:=Ld (HNX.out.only ho2 (by omega) (by omega));have HOR2:=Ld hor2;clear hq1 hq2 hv2 hof2 hx2 hB2 ho2 hor2;go_wp2_with (at_builtin;refine wpList_append_own_at _ rfl (.tmp 35) (.tmp 38) 152 rfl (w.heap.size+1) 22 i0 _ 1 24 Tryz.underlying152 hi hz0 hz1 hz2 rfl (by omega) _ ms.length (Zr NsM.cells ms) rfl HO3.out ⟨w2.heap.size,0,none⟩ 1 1 [.slice A2 v.length c2] rfl rfl (cell_one_new _ _ _) (by simp [Value.oneCell']) (by unfold maxLen;omega) (by omega) (by simp;omega) ?_;intro pv6 w6 hown6 hgrow6 _ hloc6;obtain ⟨Ap6,cp6,hpv6,hcp6⟩:=Vt hown6;subst hpv6)
     have hz6:w2.heap.size+1<=w6.heap.size:=(by have:=hgrow6.size;simpa using this);have hk6:∀k,k < w2.heap.size->(Value.slice Ap ms.length cp).ownBlock≠some k->w6.heap[k]? = w2.heap[k]?:=λk hk hne=>(hgrow6.block k (by simp;omega) (λe=>hne e.symm)).trans (RowKit.Below.heap_alloc _ _ _ hk);have HB6:Hid (Blk w6 xb 99 (x.cells (j+(ps.take (ms.length+1)).flatten.length))):=(hk6 xb (by omega) (λh=>by have:=(hpb _ h).1;omega)).trans HB2.out;have HO6:Hid (w6.ownsRow (w.heap.size+1) 22 1 (.slice Ap6 (ms.length+1) cp6) (ms ++ [(⟨A2,c2,v⟩:NsM)]).length (Zr NsM.cells (ms ++ [(⟨A2,c2,v⟩:NsM)]))):=by
      show World.ownsRow _ _ _ _ _ _ _;rw [List.length_append,Q1];exact hown6
     have HON6:Hid (w6.ownsRow (w.heap.size+1) 9 1 (.slice An2 (ns.length+1) cn2) (ns ++ [f.s.toList]).length ((ns ++ [f.s.toList]).map encStr)):=HON3.out.kept hgrow6 (by
      cases hh:(Value.slice An2 (ns.length+1) cn2).ownBlock with
      | none=>exact .inl rfl
      | some q=>exact .inr (λh=>HDB.out q h.symm hh))
     have HD6:Hid (∀q,(Value.slice Ap6 (ms.length+1) cp6).ownBlock=some q->(Value.slice An2 (ns.length+1) cn2).ownBlock≠some q):=λq hq h=>by
      rcases hloc6 with h2 | h2
      . exact HDB.out q (h2 ▸ hq) h
      . rw [h2] at hq;injection hq with hq;have:=(hnbX q h).2;simp at hq;omega
     have hg':∀q,q < w2.heap.size->G3 xb (.slice Ap6 (ms.length+1) cp6) (.slice An2 (ns.length+1) cn2) q->G3 xb (.slice Ap ms.length cp) (.slice An2 (ns.length+1) cn2) q:=λq hq h=>by
      rcases h with h | h | h
      . exact .inl h
      . rcases hloc6 with h2 | h2
        . exact .inr (.inl (h2 ▸ h))
        . rw [h2] at h;injection h with h;simp at h;omega
      . exact .inr (.inr h)
     have HF6:Hid (∀y∈ms ++ [(⟨A2,c2,v⟩:NsM)],Jk (G3 xb (.slice Ap6 (ms.length+1) cp6) (.slice An2 (ns.length+1) cn2)) w6 y/\Zb y.e=0/\Y0 y.e):=λy hy=>by
      rcases List.mem_append.1 hy with hy | hy
      . exact ⟨((HFX.out y hy).1.turn hzx2 (λk hk hg=>hg12.block k hk (λh=>by injection h with h;exact hg (.inl h))) (λ_ _ h=>h)).turn (by omega) (λk hk hg=>hk6 k hk (λh=>hg (.inr (.inl h)))) hg',(HFX.out y hy).2⟩
      . simp at hy;subst hy;exact ⟨HFR.out.turn (by omega) (λk hk hg=>hk6 k hk (λh=>hg (.inr (.inl h)))) hg',HVO.out⟩
     have HN6:Hid (Jj w6 w.heap.size 0 n):=by
      have hc:∀i,w6.cell? ⟨w.heap.size,i,none⟩=w2.cell? ⟨w.heap.size,i,none⟩:=λi=>World.cell?_of_block (a:=⟨w.heap.size,i,none⟩) (hk6 w.heap.size (by omega) (λh=>by have:=(hpb _ h).1;omega));exact ⟨(hc _).trans HN2.out.c0,(hc _).trans HN2.out.c1,(hc _).trans HN2.out.c2,(hc _).trans HN2.out.c3⟩
     have hor6:Yk w.heap.size xb w w6:=HOR2.out.trans ⟨hgrow6.os,hgrow6.tape,hgrow6.output,by omega,λk hk hne=>hk6 k (by have:=HOR2.out.size;omega) (λh=>by have:=(hpb _ h).1;omega)⟩;have HL6:(ms ++ [(⟨A2,c2,v⟩:NsM)]).length=ms.length+1:=(by simp);have HNS6:Hid (ns ++ [f.s.toList]=(ps.take (ms ++ [(⟨A2,c2,v⟩:NsM)]).length).map λp=>(sH p).toList):=by
      show _=_;rw [HL6,List.take_add_one,HPK.out,HNS.out,HFS.out];simp
     have HA7:Hid (Uo (Q.take (ms ++ [(⟨A2,c2,v⟩:NsM)]).length)=.ok ((ms ++ [(⟨A2,c2,v⟩:NsM)]).map NsM.e)):=by
      show _=_;rw [HL6,Zfk HA.out HQK.out,List.map_append];rfl
     have HAT7:Hid (j+(ps.take (ms.length+1)).flatten.length=j+(ps.take (ms ++ [(⟨A2,c2,v⟩:NsM)]).length).flatten.length):=(by show _=_;rw [HL6]);clear hown6 hgrow6 hloc6 hg' hk6 HL6 hg12;go_wp2_with fail
     exact ⟨⟨ms ++ [⟨A2,c2,v⟩],ns ++ [f.s.toList],j+(ps.take (ms.length+1)).flatten.length,by first | rfl | (simp;done) | go_num,by first | (simp;done) | (simp;omega),by first | (simp;done) | (simp;omega),HAT7,HNS6,HA7,by simpa using HO6,by simpa using HON6,HD6,by simpa using HF6,HB6,HN6,hor6,by omega⟩,by simp [intOf];omega⟩
  . have tl:decide ((ms.length:Int) < n.n)=false:=(by rw [HNN.out];simp;omega);have hle:ps.length<=ms.length:=(by omega);obtain ⟨-,Ap,cp,hpv,-,-,hps'⟩:=Y1 Zbv HR.out;subst hpv;obtain ⟨An,cn,hnv,hss⟩:=Zjh HON.out;subst hnv;have hns:X8 wr Ap ms:=⟨hps',λy hy=>(HF.out y hy).1.good⟩;have hns':ns=ps.map λp=>(sH p).toList:=by
     have:=HNS.out;rw [List.take_of_length_le hle] at this;exact this
    have hbs:ns.map bsL=ps.map sH:=(by rw [hns',List.map_map];exact List.map_congr_left λp _=>Z0i (sH p));have hlen:ms.length=ns.length:=(by rw [hns',List.length_map];omega);have hmem:∀l∈ns,∃p∈ps,l=(sH p).toList:=λl hl=>by
     rw [hns'] at hl;obtain ⟨p,hm,e⟩:=List.mem_map.1 hl;exact ⟨p,hm,e.symm⟩
    have hcol:Calls Tryz.prog 110 #[.int .i64 n.op,.slice An ns.length cn,.slice Ap ms.length cp] wr λr w'=>Zp wr r w' (Ky ((ps.map sH).zip (ms.map NsM.e))):=by
     rw [HO.out,<-hbs];exact Zxu ns ms An Ap cn cp wr HXR.out.err (Nat.lt_of_lt_of_le HXR.out.errB (Nat.le_trans (Nat.le_of_lt hxb) hor.size)) hlen (by omega) (by rw [hns'];exact HND.out)
      (λl hl=>by obtain ⟨p,hm,rfl⟩:=hmem l hl;exact HSZ.out p hm) (λl hl=>by obtain ⟨p,hm,rfl⟩:=hmem l hl;exact HNM.out p hm) (λy hy=>(HF.out y hy).2)
      (by rw [hbs];exact HGO.out _ (by rw [List.length_map];omega) (λv hv=>by obtain ⟨y,hy,rfl⟩:=List.mem_map.1 hv;exact (HF.out y hy).2.1)) hss hns
    have hq3:q'=Ky ((ps.map sH).zip (ms.map NsM.e)):=by
     have:=HA.out;rw [List.take_of_length_le (by rw [HQL.out];exact hle)] at this;rw [HQ.out,this];rfl
    rw [<-hq3] at hcol;have HCO:=Ld hcol;have HBE:Hid (Blk wr xb 99 (x.cells jE)):=by
     have:=HB.out;have e:=HAT.out;rw [List.take_of_length_le hle,<-HJE.out] at e;rw [e] at this;exact this
    have HOR:=Ld hor;clear hps' hns hcol hq3 HQ hns' hbs hlen hmem hss;go_wp2_with fail
    refine HCO.out.mono ?_;rintro r w3 hr3;have hpost:Zh x xb jE q' w r w3:=by
     obtain ⟨h1,h2,h3⟩:=hr3;have ho3:Yk wr.heap.size xb wr w3:=Yk.of_below h3 (nL _);refine ⟨λv hv=>?_,h2,HOR.out.trans (ho3.mono HOR.out.size)⟩;obtain ⟨A,c,e,g1,g2,g3,_,g5⟩:=h1 v hv;refine ⟨A,c,e,g1,g2,λhne=>?_,HBE.out.below h3 (by omega)⟩;obtain ⟨b,o,e1,e2,e3⟩:=g3 hne;exact ⟨b,o,e1,e2,by have:=g5 b o e1;unfold gx;omega,e3⟩
    have HP:=Ld hpost;obtain ⟨g1,g2,-⟩:=hr3;clear hpost;cases q' with
    | bad k=>
     have hr:=g2 k rfl;subst hr;clear g1 g2;go_wp2_with fail
     exact ⟨rfl,HP.out⟩
    | ok u=>
     obtain ⟨A2,c2',rfl,-⟩:=g1 u rfl;clear g1 g2;go_wp2_with fail
     go_ret
     exact HP.out
theorem Z49 (x:Evl)(n:Nd)(ps:List (List Nd))(ho:n.op=5)(hnn:n.n=ps.length)(hps:ps.length<=199)(hp:∀p∈ps,Ex (.one false) p)(ih:∀p∈ps,Zs x p):Zs x (n :: ps.flatten):=by
 intro i xb rest w hdr hx hB;have hn:x.e[i]? = some n:=by
  have:=congrArg (λl=>l[0]?) hdr;simpa [List.getElem?_drop] using this
 have hil:i < x.e.length:=(List.getElem?_eq_some_iff.1 hn).1;have hxb:=hB.lt;obtain ⟨be,oe,hea,hbe,hcs⟩:=hx.ex.at_ hil;obtain ⟨n0,n1,n2,n3⟩:=hcs i n hn;have hS0:NxS xb i be oe x n w w.drew:=⟨by rw [<-hea];exact hB.cell 8,hB.cell 9,n0,n1,n2,n3⟩;have hbw:be < w.heap.size:=Nat.lt_trans hbe hxb;have HS0:=Ld (hS0.alloc hxb hbw);have HS1:=Ld hS0;have hia:=Vc be oe x.e.length x.eca i hil;have HDR:=Ld hdr;have hni:=Xq (n:=n) hx hB;have HNI:=Ld hni;have h9:w.cell? ⟨xb,9,none⟩=some (.int .i64 i):=hS0.s1;have hf9:w.frozen? ⟨xb,9,none⟩=false:=hB.frozen 9;have hi1:IntKind.wrap .i64 ((i:Int)+1)=(i:Int)+1:=by
  have:=hx.el;exact IntWalk.i64_in _ (by omega)
 have hni0:=hni.drew;have hdr1:x.e.drop (i+1)=ps.flatten++rest:=by
  have:=congrArg List.tail hdr;simpa [List.tail_drop] using this
 have hns:n.s.size<=140737488351232:=(hx.ek n (mG hn)).1;clear hcs n0 n1 n2 n3 hea hn hx hB hdr hS0 hni HDR;have t1:(n.op==1)=false:=by simp [ho]
 have t2:(n.op==2)=false:=by simp [ho]
 have t3:(n.op==3)=false:=by simp [ho]
 have t4:(n.op==4)=false:=by simp [ho]
 have t8:(n.op==8)=false:=by simp [ho]
 have t11:(n.op==11)=false:=by simp [ho]
 have t12:(n.op==12)=false:=by simp [ho]
 have t13:(n.op==13)=false:=by simp [ho]
 have t5:(n.op==5)=true:=by simp [ho]
 have t6:(n.op==6)=false:=by simp [ho]
 have t9:(n.op==9)=false:=by simp [ho]
 have t10:(n.op==10)=false:=by simp [ho]
 have t21:(n.op==21)=false:=by simp [ho]
 have t22:(n.op==22)=false:=by simp [ho]
 have t23:(n.op==23)=false:=by simp [ho]
 have t24:(n.op==24)=false:=by simp [ho]
 have hlen:i+(n :: ps.flatten).length=i+1+ps.flatten.length:=by rw [List.length_cons];omega
 have hcall:=Zzq x xb (i+1) n ps rest (nw w xb i n).drew ho hnn hps hp ih hni0.ev hni0.blk hdr1;have hev:evX x.es x.q (n :: ps.flatten)=(Uo (ps.map (evX x.es x.q))).bind Qc:=by
  rw [V6 x.es x.q (by rw [show (n.op==6)=false by simp [ho]];exact hp)];unfold Kt;rw [if_neg (by omega),if_neg (by omega),show (n.op==5)=true by simp [ho],show (n.op==6)=false by simp [ho]]
 rw [hlen,hev];generalize i+1+ps.flatten.length=j2 at hcall ⊢;generalize (Uo (ps.map (evX x.es x.q))).bind Qc=q at hcall ⊢;unfold nw at hcall;have HA:=Ld hcall;clear hcall hni0 hdr1 ho hns hnn hps hp ih hlen hev;go_enter Tryz.func52,Tryz.ntmps52
 go_wp2_with fail
 refine Zg (S:=NxS xb i be oe x n w) [(0,false),(1,false),(2,false),(3,false),(4,false),(5,false),(6,false),(7,false),(8,false),(9,false),(10,true),(11,true)] (by kernel_rfl) (by kernel_rfl) (λ_ _ _ _ _ h=>h) HS1.out (λhW'=>?_);simp only [Yl,List.filterMap_cons,List.filterMap_nil,List.getElem?_cons_zero,List.getElem?_cons_succ,Option.map_some];(repeat ((first | (refine Ze (v:=?_) (by rfl) ?_ ?_;rotate_left;(focus (intro W hW;obtain ⟨s0,s1,s2,s3,s4,s5⟩:=hW;go_simp;try with_reducible rfl))) | refine Zd (by rfl) ?_);simp only [Act.put,pA,pB,pC]))
 clear hW';refine Zc (λK hK=>?_);go_simp
 refine hK _ _ (HS0.out _) ?_;clear hK K;refine Zc (λK hK=>?_);go_simp
 refine hK _ _ (HS0.out _) ?_;clear hK K;refine Yj ?_;go_wp2_with fail
 refine HA.out.mono ?_;rintro r w1 hr2;have hpost:=Zh.up HNI.out.drew hr2;obtain ⟨g1,g2,-⟩:=hr2;have HP:=Ld hpost;clear hpost;cases q with
 | bad k=>
  have hr:=g2 k rfl;subst hr;clear g1 g2;go_wp2_with fail
  exact ⟨rfl,HP.out⟩
 | ok u=>
  obtain ⟨A2,c2',rfl,-⟩:=g1 u rfl;clear g1 g2;go_wp2_with fail
  go_ret
  exact HP.out
theorem Z4p (x:Evl)(n:Nd)(ps:List (List Nd))(ho:n.op=6)(hnn:n.n=ps.length)(hps:ps.length<=199)(hp:∀p∈ps,Ex (.one true) p)(ih:∀p∈ps,Zs x p.tail)
 (hnd:(ps.map λp=>(sH p).toList).Nodup) (hnm:∀p∈ps,Zf (sH p).toList=0) (hgo:∀vs:List (List Nd),vs.length=ps.length->(∀v∈vs,Zb v=0)->Jz ((ps.map sH).zip vs) []=0):Zs x (n :: ps.flatten):=by
 intro i xb rest w hdr hx hB;have hn:x.e[i]? = some n:=by
  have:=congrArg (λl=>l[0]?) hdr;simpa [List.getElem?_drop] using this
 have hil:i < x.e.length:=(List.getElem?_eq_some_iff.1 hn).1;have hxb:=hB.lt;obtain ⟨be,oe,hea,hbe,hcs⟩:=hx.ex.at_ hil;obtain ⟨n0,n1,n2,n3⟩:=hcs i n hn;have hS0:NxS xb i be oe x n w w.drew:=⟨by rw [<-hea];exact hB.cell 8,hB.cell 9,n0,n1,n2,n3⟩;have hbw:be < w.heap.size:=Nat.lt_trans hbe hxb;have HS0:=Ld (hS0.alloc hxb hbw);have HS1:=Ld hS0;have hia:=Vc be oe x.e.length x.eca i hil;have HDR:=Ld hdr;have hni:=Xq (n:=n) hx hB;have HNI:=Ld hni;have h9:w.cell? ⟨xb,9,none⟩=some (.int .i64 i):=hS0.s1;have hf9:w.frozen? ⟨xb,9,none⟩=false:=hB.frozen 9;have hi1:IntKind.wrap .i64 ((i:Int)+1)=(i:Int)+1:=by
  have:=hx.el;exact IntWalk.i64_in _ (by omega)
 have hni0:=hni.drew;have hdr1:x.e.drop (i+1)=ps.flatten++rest:=by
  have:=congrArg List.tail hdr;simpa [List.tail_drop] using this
 have hns:n.s.size<=140737488351232:=(hx.ek n (mG hn)).1;clear hcs n0 n1 n2 n3 hea hn hx hB hdr hS0 hni HDR;have t1:(n.op==1)=false:=by simp [ho]
 have t2:(n.op==2)=false:=by simp [ho]
 have t3:(n.op==3)=false:=by simp [ho]
 have t4:(n.op==4)=false:=by simp [ho]
 have t8:(n.op==8)=false:=by simp [ho]
 have t11:(n.op==11)=false:=by simp [ho]
 have t12:(n.op==12)=false:=by simp [ho]
 have t13:(n.op==13)=false:=by simp [ho]
 have t5:(n.op==5)=false:=by simp [ho]
 have t6:(n.op==6)=true:=by simp [ho]
 have t9:(n.op==9)=false:=by simp [ho]
 have t10:(n.op==10)=false:=by simp [ho]
 have t21:(n.op==21)=false:=by simp [ho]
 have t22:(n.op==22)=false:=by simp [ho]
 have t23:(n.op==23)=false:=by simp [ho]
 have t24:(n.op==24)=false:=by simp [ho]
 have hlen:i+(n :: ps.flatten).length=i+1+ps.flatten.length:=by rw [List.length_cons];omega
 have hcall:=Zyd x xb (i+1) n ps rest (nw w xb i n).drew ho hnn hps hp ih hni0.ev hni0.blk hdr1 hnd hnm hgo;have hev:evX x.es x.q (n :: ps.flatten)=(Uo (ps.map λp=>evX x.es x.q p.tail)).bind λvs=>Ky ((ps.map sH).zip vs):=by
  rw [V6 x.es x.q (by rw [show (n.op==6)=true by simp [ho]];exact hp)];unfold Kt;rw [if_neg (by omega),if_neg (by omega),show (n.op==5)=false by simp [ho],show (n.op==6)=true by simp [ho]]
 rw [hlen,hev];generalize i+1+ps.flatten.length=j2 at hcall ⊢;generalize ((Uo (ps.map λp=>evX x.es x.q p.tail)).bind λvs=>Ky ((ps.map sH).zip vs))=q at hcall ⊢;unfold nw at hcall;have HA:=Ld hcall;clear hcall hni0 hdr1 ho hns hnn hps hp ih hnd hnm hgo hlen hev;go_enter Tryz.func52,Tryz.ntmps52
 go_wp2_with fail
 refine Zg (S:=NxS xb i be oe x n w) [(0,false),(1,false),(2,false),(3,false),(4,false),(5,false),(6,false),(7,false),(8,false),(9,false),(10,true),(11,true)] (by kernel_rfl) (by kernel_rfl) (λ_ _ _ _ _ h=>h) HS1.out (λhW'=>?_);simp only [Yl,List.filterMap_cons,List.filterMap_nil,List.getElem?_cons_zero,List.getElem?_cons_succ,Option.map_some];(repeat ((first | (refine Ze (v:=?_) (by rfl) ?_ ?_;rotate_left;(focus (intro W hW;obtain ⟨s0,s1,s2,s3,s4,s5⟩:=hW;go_simp;try with_reducible rfl))) | refine Zd (by rfl) ?_);simp only [Act.put,pA,pB,pC]))
 clear hW';refine Zc (λK hK=>?_);go_simp
 refine hK _ _ (HS0.out _) ?_;clear hK K;refine Zc (λK hK=>?_);go_simp
 refine hK _ _ (HS0.out _) ?_;clear hK K;refine Yj ?_;go_wp2_with fail
 refine HA.out.mono ?_;rintro r w1 hr2;have hpost:=Zh.up HNI.out.drew hr2;obtain ⟨g1,g2,-⟩:=hr2;have HP:=Ld hpost;clear hpost;cases q with
 | bad k=>
  have hr:=g2 k rfl;subst hr;clear g1 g2;go_wp2_with fail
  exact ⟨rfl,HP.out⟩
 | ok u=>
  obtain ⟨A2,c2',rfl,-⟩:=g1 u rfl;clear g1 g2;go_wp2_with fail
  go_ret
  exact HP.out
theorem Ziv:∀(fs:List (ByteArray × List Nd)) (met:List (List UInt8)),(∀f∈fs,Zf f.1.toList=0/\Zb f.2=0)->(fs.map λf=>f.1.toList).Nodup->(∀f∈fs,f.1.toList ∉ met)->Jz fs met=0
 | [],_,_,_,_=>rfl
 | (s,v) :: r,met,h,hn,hm=>by
  obtain ⟨h1,h2⟩:=h (s,v) (by simp);have h3:=hm (s,v) (by simp);rw [List.map_cons,List.nodup_cons] at hn;have ih:=Ziv r (met ++ [s.toList]) (λf hf=>h f (by simp [hf])) hn.2 (λf hf hc=>by
   rcases List.mem_append.1 hc with hc | hc
   . exact hm f (by simp [hf]) hc
   . simp only [List.mem_singleton] at hc;exact hn.1 (List.mem_map.2 ⟨f,hf,hc⟩))
  simp only at h1 h2 h3;unfold Jz;rw [if_neg (by simp [h1]),if_neg h3,if_neg (by simp [h2]),ih]
theorem Zw0 {ps:List (List Nd)}{l:ByteArray}(hK:ExK true l ps):(ps.map λp=>(sH p).toList).Nodup/\(∀p∈ps,Zf (sH p).toList=0)/\∀vs:List (List Nd),vs.length=ps.length->(∀v∈vs,Zb v=0)->Jz ((ps.map sH).zip vs) []=0:=by
 have e0:(ps.map λp=>(sH p).toList)=Zi ps:=by unfold Zi;exact List.map_congr_left λp _=>by rw [show sH p=Xf p by cases p <;> rfl]
 have hnd:(ps.map λp=>(sH p).toList).Nodup:=by rw [e0];exact Zat (Zni hK).1
 have hnm:∀p∈ps,Zf (sH p).toList=0:=λp hp=>by
  obtain ⟨y,r,e,hs,h7⟩:=Jb (Jq hK p hp);have h7':y.op=7:=by simpa using h7
  rw [e];unfold Zx at hs;rw [if_neg (by omega),if_neg (by omega),if_neg (by omega),if_pos (by omega)] at hs;simp only [Bool.and_eq_true,beq_iff_eq] at hs;exact hs.2
 refine ⟨hnd,hnm,λvs hl hv=>Ziv _ _ ?_ ?_ (by simp)⟩
 . intro f hf;obtain ⟨h1,h2⟩:=List.of_mem_zip (a:=f.1) (b:=f.2) hf;obtain ⟨p,hp,e⟩:=List.mem_map.1 h1;exact ⟨by rw [<-e];exact hnm p hp,hv _ h2⟩
 . have:(((ps.map sH).zip vs).map λf=>f.1.toList)=ps.map λp=>(sH p).toList:=by
    rw [show (λf:ByteArray × List Nd=>f.1.toList)=(λs:ByteArray=>s.toList) ∘ Prod.fst from rfl,<-List.map_map,List.map_fst_zip (by simp;omega),List.map_map];rfl
   rw [this];exact hnd
theorem Zz6:∀{ps:List (List Nd)},(∀p∈ps,p≠[])->ps.length<=ps.flatten.length
 | [],_=>by simp
 | p :: r,h=>by
  have h1:=Zz6 λq hq=>h q (List.mem_cons_of_mem _ hq);have h2:0 < p.length:=by cases p with | nil=>exact absurd rfl (h [] (by simp)) | cons=>simp
  rw [List.flatten_cons,List.length_append,List.length_cons];omega
theorem Zi2 (x:Evl)(hf:Zgy x):∀(N:Nat) (xs:List Nd),xs.length<=N->xs.length<=200->Ex (.one false) xs->Zs x xs
 | 0,xs,hN,_,h=>by
  obtain ⟨y,r,e,_⟩:=Jb h;rw [e] at hN;simp at hN
 | N+1,xs,hN,hl,h=>by
  cases h with
  | one n body _ hs h7 hb=>
   obtain ⟨ps,hc,hfl,hK⟩:=J8 hb;subst hfl;have hex:=Jq hK;have h7':¬n.op=7:=(by simpa using h7);rw [List.length_cons] at hN hl;have hne:∀p∈ps,p≠[]:=λp hp=>by obtain ⟨y,r,e,_⟩:=Jb (hex p hp);rw [e];simp
   have hpl:=Zz6 hne;have hin:∀p∈ps,¬n.op=6->Ex (.one false) p:=λp hp h6=>by
    have:=hex p hp;rwa [show (n.op==6)=false by simp [h6]] at this
   have ih:¬n.op=6->∀p∈ps,Zs x p:=λh6 p hp=>by
    have:=Uc hp;exact Zi2 x hf N p (by omega) (by omega) (hin p hp h6)
   have hcase:(n.op=1\/n.op=2\/n.op=3\/n.op=4\/n.op=8)/\ps.length=0\/(n.op=5\/n.op=6)/\n.n=ps.length\/(n.op=9\/n.op=10\/n.op=21\/n.op=22\/n.op=23\/n.op=24)/\ps.length=1 \/
    (n.op=11\/n.op=12\/n.op=14\/n.op=15\/n.op=16\/n.op=17\/n.op=18\/n.op=19\/n.op=20\/n.op=25\/n.op=26\/n.op=27)/\ps.length=2\/n.op=13/\ps.length=3:=by
    unfold Zl at hc;unfold Zx at hs;by_cases a1:n.op=1\/n.op=2\/n.op=3\/n.op=4\/n.op=8
    . rw [if_pos a1] at hc;left;exact ⟨a1,by simpa using hc⟩
    rw [if_neg a1] at hc;by_cases a2:n.op=5\/n.op=6
    . rw [if_pos a2] at hc;rw [if_neg (by omega),if_pos a2] at hs;simp only [Bool.and_eq_true,decide_eq_true_eq] at hs;right;left;exact ⟨a2,by have:=hs.1.1;omega⟩
    rw [if_neg a2] at hc;by_cases a3:n.op=7\/n.op=9\/n.op=10\/n.op=21\/n.op=22\/n.op=23\/n.op=24
    . rw [if_pos a3] at hc;right;right;left;exact ⟨by omega,by simpa using hc⟩
    rw [if_neg a3] at hc;by_cases a4:n.op=11\/n.op=12\/n.op=14\/n.op=15\/n.op=16\/n.op=17\/n.op=18\/n.op=19\/n.op=20\/n.op=25\/n.op=26\/n.op=27
    . rw [if_pos a4] at hc;right;right;right;left;exact ⟨a4,by simpa using hc⟩
    rw [if_neg a4] at hc;by_cases a5:n.op=13
    . rw [if_pos a5] at hc;right;right;right;right;exact ⟨a5,by simpa using hc⟩
    . exfalso
      rw [if_neg (by omega),if_neg a2,if_neg (by omega),if_neg (by omega),if_neg (by omega)] at hs;simp only [Bool.and_eq_true,decide_eq_true_eq] at hs;have h1:=hs.1.1.1;unfold Zl at h1;rw [if_neg a1,if_neg a2,if_neg a3,if_neg a4,if_neg a5] at h1;omega
   rcases hcase with ⟨ho,hlen⟩ | ⟨ho,hn⟩ | ⟨ho,hlen⟩ | ⟨ho,hlen⟩ | ⟨ho,hlen⟩
   . obtain rfl:=List.eq_nil_of_length_eq_zero hlen;rw [List.flatten_nil];rcases ho with e | e | e | e | e
     . exact Z38 x n e
     . exact Z4j x n e
     . exact Z40 x n e
     . exact Z4t x n e
     . exact Z4s x n e
   . by_cases h6:n.op=6
     . have hK6:ExK true ⟨#[]⟩ ps:=by
        rw [show (n.op==6)=true by simp [h6]] at hK;exact hK
       obtain ⟨r1,r2,r3⟩:=Zw0 hK6;exact Z4p x n ps h6 hn (by omega) (Jq hK6) (λp hp=>by
        obtain ⟨g1,g2⟩:=Zap (Jq hK6 p hp);have:=Uc hp;exact Zi2 x hf N p.tail (by omega) (by omega) g1) r1 r2 r3
     . have h5:n.op=5:=(by omega);exact Z49 x n ps h5 hn (by omega) (λp hp=>hin p hp h6) (ih h6)
   . match ps,hlen with
     | [a],_=>
      have h6:¬n.op=6:=(by omega);have ha:=ih h6 a (by simp);have hea:=hin a (by simp) h6;rw [show [a].flatten=a by simp];rcases ho with e | e | e | e | e | e
      . exact Z4v x n a ha hea e
      . exact Z2l x n a ha hea e
      . exact Z13 x n a ha hea e
      . exact Z0y x n a ha hea e
      . exact Z2y x n a ha hea e
      . exact Z24 x n a ha hea e
   . match ps,hlen with
     | [a,b],_=>
      have h6:¬n.op=6:=(by omega);have ha:=ih h6 a (by simp);have hb:=ih h6 b (by simp);have hea:=hin a (by simp) h6;have heb:=hin b (by simp) h6;rw [show [a,b].flatten=a++b by simp];rcases ho with e | e | e | e | e | e | e | e | e | e | e | e
      . exact Z2w x n hf a b ha hb hea heb e
      . exact Z3u x n hf a b ha hb hea heb e
      . exact Z3j x n a b ha hb hea heb e
      . exact Z08 x n a b ha hb hea heb e
      . exact Z1l x n a b ha hb hea heb e
      . exact Z1m x n a b ha hb hea heb e
      . exact Z09 x n a b ha hb hea heb e
      . exact Z3l x n a b ha hb hea heb e
      . exact Z3c x n a b ha hb hea heb e
      . exact Z2j x n a b ha hb hea heb e
      . exact Z1q x n a b ha hb hea heb e
      . exact Z1y x n a b ha hb hea heb e
   . match ps,hlen with
     | [c,a,b],_=>
      have h6:¬n.op=6:=(by omega);rw [show [c,a,b].flatten=c++(a++b) by simp];exact Z22 x n hf c a b (ih h6 c (by simp)) (ih h6 a (by simp)) (ih h6 b (by simp)) (hin c (by simp) h6) (hin a (by simp) h6) (hin b (by simp) h6) ho
theorem Qj (q:Rq)(A:Option Addr)(c:Nat)(w:World)(h1:Km q.who)(h2:Km q.act)(h3:Km q.what)(hc:q.ctx.length<=c)(hcm:c<=9223372036854775807)(hk:Y0 q.ctx)(hs:Ye w w.heap.size A q.ctx) :
 Calls Tryz.prog 23 #[.agg #[.string q.who.ty,.string q.who.id,.string q.act.ty,.string q.act.id,.string q.what.ty,.string q.what.id,.slice A q.ctx.length c]] w λr w'=>r=.returned (Yh (Vr q))/\RowKit.Below w.heap.size w w':=by
 have HW1:=Ld (λW=>Uw q.who W h1);have HW2:=Ld (λW=>Uw q.act W h2);have HW3:=Ld (λW=>Uw q.what W h3);have HV:=Ld (λW (hb:RowKit.Below w.heap.size w W)=>Ve q.ctx A c W hc hcm hk ((hs.below hb).more hb.size));have HHD:=Ld (λ(h:Zb q.ctx=0)=>Yr.head (w:=w) (A:=A) (c:=c) ⟨h,hk,hc,hcm,hs⟩);obtain ⟨k,hk0⟩:∃k,k=Vr q:=⟨_,rfl⟩;rw [<-hk0];unfold Vr at hk0;clear h1 h2 h3 hc hcm hk hs;have B0:Blk (w.alloc (.cells #[.string q.who.ty,.string q.who.id,.string q.act.ty,.string q.act.id,.string q.what.ty,.string q.what.id,.slice A q.ctx.length c] 39)) w.heap.size 39 #[.string q.who.ty,.string q.who.id,.string q.act.ty,.string q.act.id,.string q.what.ty,.string q.what.id,.slice A q.ctx.length c]:=Blk.new _ _ _;have HB0:=Ld B0;have HK:=Ld hk0;clear hk0 B0;have hix0:∀(a b c d e f:ByteArray) (W:World),(Instr.index 120 (.agg #[.string a,.string b,.string c,.string d,.string e,.string f]) (.int .i64 0)).run Tryz.prog W=.ok (.agg #[.string a,.string b]) W:=λ_ _ _ _ _ _ _=>by kernel_rfl
 have hix1:∀(a b c d e f:ByteArray) (W:World),(Instr.index 120 (.agg #[.string a,.string b,.string c,.string d,.string e,.string f]) (.int .i64 1)).run Tryz.prog W=.ok (.agg #[.string c,.string d]) W:=λ_ _ _ _ _ _ _=>by kernel_rfl
 have hix2:∀(a b c d e f:ByteArray) (W:World),(Instr.index 120 (.agg #[.string a,.string b,.string c,.string d,.string e,.string f]) (.int .i64 2)).run Tryz.prog W=.ok (.agg #[.string e,.string f]) W:=λ_ _ _ _ _ _ _=>by kernel_rfl
 go_enter Tryz.func23,Tryz.ntmps23
 go_wp2_with fail
 refine wp_loop_rounds 4 ?_;rw [rounds_succ];go_wp2_with fail
 refine (HW1.out _).mono ?_;rintro r w1 ⟨rfl,hb1⟩;have hl1:RowKit.Below w.heap.size w ((w.alloc (.cells #[.string q.who.ty,.string q.who.id,.string q.act.ty,.string q.act.id,.string q.what.ty,.string q.what.id,.slice A q.ctx.length c] 39)).alloc (.cells #[.string q.who.ty,.string q.who.id] 34)):=by exact ((RowKit.Below.refl _ w).alloc (nL _) _).alloc (by simp) _
 have hB1:Blk w1 w.heap.size 39 #[.string q.who.ty,.string q.who.id,.string q.act.ty,.string q.act.id,.string q.what.ty,.string q.what.id,.slice A q.ctx.length c]:=(HB0.out.alloc _).below hb1 (by have:=(HB0.out).lt;simp at this ⊢;omega);have HC1:=Ld hB1;have BW1:=Ld (hl1.trans (hb1.mono hl1.size));clear hb1 hl1 hB1;by_cases g1:Zw q.who=0
 case neg=>
  have t:(Zw q.who != 0)=true:=by simpa using g1
  have e:k=Zw q.who:=by rw [HK.out,if_pos g1]
  subst e;clear HK g1;go_wp2_with fail
  go_ret
  exact ⟨rfl,BW1.out⟩
 have t1:(Zw q.who != 0)=false:=by simpa using g1
 have HG1:=Ld g1;clear g1;go_wp2_with fail
 rw [rounds_succ];go_wp2_with fail
 refine (HW2.out _).mono ?_;rintro r w2 ⟨rfl,hb2⟩;have hl2:RowKit.Below w.heap.size w (w1.alloc (.cells #[.string q.act.ty,.string q.act.id] 34)):=by exact BW1.out.alloc BW1.out.size _
 have hB2:Blk w2 w.heap.size 39 #[.string q.who.ty,.string q.who.id,.string q.act.ty,.string q.act.id,.string q.what.ty,.string q.what.id,.slice A q.ctx.length c]:=(HC1.out.alloc _).below hb2 (by have:=(HC1.out).lt;simp at this ⊢;omega);have HC2:=Ld hB2;have BW2:=Ld (hl2.trans (hb2.mono hl2.size));clear hb2 hl2 hB2;by_cases g2:Zw q.act=0
 case neg=>
  have t:(Zw q.act != 0)=true:=by simpa using g2
  have e:k=Zw q.act:=by rw [HK.out,if_neg (by simp [HG1.out]),if_pos g2]
  subst e;clear HK g2;go_wp2_with fail
  go_ret
  exact ⟨rfl,BW2.out⟩
 have t2:(Zw q.act != 0)=false:=by simpa using g2
 have HG2:=Ld g2;clear g2;go_wp2_with fail
 rw [rounds_succ];go_wp2_with fail
 refine (HW3.out _).mono ?_;rintro r w3 ⟨rfl,hb3⟩;have hl3:RowKit.Below w.heap.size w (w2.alloc (.cells #[.string q.what.ty,.string q.what.id] 34)):=by exact BW2.out.alloc BW2.out.size _
 have hB3:Blk w3 w.heap.size 39 #[.string q.who.ty,.string q.who.id,.string q.act.ty,.string q.act.id,.string q.what.ty,.string q.what.id,.slice A q.ctx.length c]:=(HC2.out.alloc _).below hb3 (by have:=(HC2.out).lt;simp at this ⊢;omega);have HC3:=Ld hB3;have BW3:=Ld (hl3.trans (hb3.mono hl3.size));clear hb3 hl3 hB3;by_cases g3:Zw q.what=0
 case neg=>
  have t:(Zw q.what != 0)=true:=by simpa using g3
  have e:k=Zw q.what:=by rw [HK.out,if_neg (by simp [HG1.out]),if_neg (by simp [HG2.out]),if_pos g3]
  subst e;clear HK g3;go_wp2_with fail
  go_ret
  exact ⟨rfl,BW3.out⟩
 have t3:(Zw q.what != 0)=false:=by simpa using g3
 have HG3:=Ld g3;clear g3;go_wp2_with fail
 have c6:w3.cell? ⟨w.heap.size,6,none⟩=some (.slice A q.ctx.length c):=HC3.out.cell 6;rw [rounds_succ];go_wp2_with fail
 refine (HV.out w3 BW3.out).mono ?_;rintro r w4 ⟨rfl,hb4⟩;have BW4:=Ld (BW3.out.trans (hb4.mono BW3.out.size));have d6:w4.cell? ⟨w.heap.size,6,none⟩=some (.slice A q.ctx.length c):=(HC3.out.below hb4 HC3.out.lt).cell 6;clear hb4 c6;by_cases g4:Zb q.ctx=0
 case neg=>
  have t:(Zb q.ctx != 0)=true:=by simpa using g4
  have e:k=Zb q.ctx:=by rw [HK.out,if_neg (by simp [HG1.out]),if_neg (by simp [HG2.out]),if_neg (by simp [HG3.out]),if_pos g4]
  subst e;clear HK g4;go_wp2_with fail
  go_ret
  exact ⟨rfl,BW4.out⟩
 have t4:(Zb q.ctx != 0)=false:=by simpa using g4
 have hk0:k=if opH q.ctx=6 then 0 else 2:=by rw [HK.out,if_neg (by simp [HG1.out]),if_neg (by simp [HG2.out]),if_neg (by simp [HG3.out]),if_neg (by simp [g4])]
 obtain ⟨y,yr,yb,yo,hvy,rfl,hyb,⟨y0,-,-,-⟩,hoy,-,-,-,hl⟩:=HHD.out g4;have hia:=λW=>Zhq (w:=W) (b:=yb) (o:=yo) (L:=q.ctx.length) (c:=c) hl;have y0':w4.cell? ⟨yb,yo,none⟩=some (.int .i64 y.op):=(BW4.out.cell (p:=⟨yb,yo,none⟩) hyb).trans y0;clear HK g4 hvy y0;rw [hoy] at hk0;clear hoy;by_cases g5:y.op=6
 . have t5:(y.op != 6)=false:=by simpa using g5
   rw [if_pos g5] at hk0;subst hk0;clear g5;go_wp2_with fail
   go_ret
   exact ⟨rfl,BW4.out⟩
 . have t5:(y.op != 6)=true:=by simpa using g5
   rw [if_neg g5] at hk0;subst hk0;clear g5;go_wp2_with fail
   go_ret
   exact ⟨rfl,BW4.out⟩
theorem Zon (e:List Nd)(A:Option Addr)(c:Nat)(w:World)(hsl:Ye w w.heap.size A e)(hl:e.length<=200) :
 Calls Tryz.prog 51 #[.slice A e.length c] w λr w'=>∃A' c',r=.returned (.slice A' e.length c')/\e.length<=c'/\c'<=9223372036854775807/\(∀g:Nat->Prop,(∀b,g b->b < w.heap.size)->Xu g w' w'.heap.size A' e)/\Below w.heap.size w w':=by
 have q:∀(w:World) (a:Option Addr) (n c n' c':Nat),(binOp .eql 100 (.slice a n c) (.slice none n' c')).run Tryz.prog w=.ok (.bool a.isNone) w:=λw a n c n' c'=>Lib.run_eql_slice_nil w _ _ a n c n' c' Tryz.underlying100;obtain ⟨i0,hi,hz0,hz1,hz2⟩:=info_parts Ko;cases A with
 | none=>
  have he:e = []:=by
   cases e with
   | nil=>rfl
   | cons x r=>obtain ⟨b,o,h,_⟩:=hsl (List.cons_ne_nil _ _);cases h
  subst he;go_enter Tryz.func51,Tryz.ntmps51
  go_wp2_with fail
  go_ret
  exact ⟨none,0,rfl,nL _,by omega,λg _ h=>absurd rfl h,Below.refl _ _⟩
 | some a=>
  have hcells:∀j u,(flat e)[j]? = some u->(w.alloc (.cells #[] 37)).cell? (a.add j)=some u:=by
   intro j u hu;have hne:e≠[]:=(by rintro rfl;simp [flat] at hu);obtain ⟨b,o,h1,h2,_⟩:=hsl hne;injection h1 with h1
   subst h1;exact Ye.flat_alloc hsl h2 _ j u hu
  have HC:=Ld hcells;clear hcells hsl;go_enter Tryz.func51,Tryz.ntmps51
  go_wp2_with (at_builtin;refine wpList_append_own _ rfl (.tmp 5) (.tmp 6) 100 rfl w.heap.size 37 i0 _ 4 48 Tryz.underlying100 hi hz0 hz1 hz2 rfl (by omega) _ _ _ rfl (World.ownsRow_made w #[] 0 (nL _) (Nat.zero_le _) (by simp)) a e.length c (flat e) rfl (Xw e) HC.out (Yp e) (by unfold maxLen;omega) (by omega) (by simp) ?_)
  intro v' w1 hown hgrow hnil;go_wp2_with fail
  go_ret
  have hown:w1.ownsRow w.heap.size 37 4 v' e.length (flat e):=by simpa using hown
  have hbel:Below w.heap.size w w1:=((Below.refl _ w).alloc (nL _) _).grown hgrow (by simp) (by intro k hk;simp [Value.ownBlock] at hk;omega);rcases hown.2 with ⟨hv,h0⟩ | ⟨g,cap,cur,hv,hb,hg,hnc,hcm,hcs,htk⟩
  . have:e = []:=List.eq_nil_of_length_eq_zero h0;subst this;exact ⟨none,0,by rw [hv];rfl,nL _,by omega,λg _ h=>absurd rfl h,hbel⟩
  . unfold maxLen at hcm;refine ⟨some ⟨g,0,none⟩,cap,by rw [hv];rfl,hnc,hcm,λg' hg'=>?_,hbel⟩;have hs:Ye w1 w1.heap.size (some ⟨g,0,none⟩) e:=Ye.of_flat (Array.getElem?_eq_some_iff.1 hg).1 λj u hu=>by
     have hj:j < e.length*4:=(by have:=(List.getElem?_eq_some_iff.1 hu).1;rw [Xw] at this;omega);subst hv;exact (hown.cellAt j hj).trans hu
    intro hne;obtain ⟨b,o,h1,h2,h3⟩:=hs hne;injection h1 with h1
    injection h1 with h4 h5
    subst h4 h5;exact ⟨g,0,rfl,h2,λhg=>by have:=hg' g hg;omega,h3⟩
theorem Zmj (k:Int)(w:World):(Instr.typeAssert (.iface 96 (.int .i64 k)) 20 96 true).run Tryz.prog w=.ok (.tuple #[.int .i64 k,.bool true]) w:=by kernel_rfl
theorem Z1n (p p2:Addr)(w:World) :
 CallsD Tryz.prog 50 #[.pointer (some p),.pointer (some p2)] .returning w λe u' w'=>e=.returned (.tuple #[])/\u'=.returning/\w'=w:=by
 refine callsD_of_wpS Tryz.func50 rfl λc₀ cs hu=>?_;apply wpS_seq;apply wpS_region;simp [wpOpsS,go_sem,recoverD,hu,Tryz.ntmps50,Exit.thenS];refine wpS_of_wp ?_;simp only [Array.replicate_succ,Array.replicate_zero,List.push_toArray,List.nil_append,List.cons_append];go_wp2
 cases c₀
 simp_all [bodyPostS,results,Tryz.results50]
theorem Zyk (p p2:Addr)(x x2:Value)(k:Int)(w:World)(hc:w.cell? p=some x)(hz:w.frozen? p=false)(hc2:w.cell? p2=some x2)(hz2:w.frozen? p2=false)(hne:p.block≠p2.block) :
 CallsD Tryz.prog 50 #[.pointer (some p),.pointer (some p2)] (.panicking [{ v:=.iface 96 (.int .i64 k),recovered:=false }]) w λe u' w'=>
  e=.returned (.tuple #[])/\u'=.panicking [{ v:=.iface 96 (.int .i64 k),recovered:=true }]/\w'=(w.setCell p (.slice none 0 0)).setCell p2 (.iface 96 (.int .i64 k)):=by
 have hta:=Zmj k;have hcw:(w.setCell p (.slice none 0 0)).cell? p2=some x2:=(World.cell?_of_block (w:=w) (a:=p2) (RowKit.Below.heap_setCell w p _ _ hne.symm)).trans hc2;have hzw:(w.setCell p (.slice none 0 0)).frozen? p2=false:=(World.frozen?_of_block (w:=w) (a:=p2) (RowKit.Below.heap_setCell w p _ _ hne.symm)).trans hz2;refine callsD_of_wpS Tryz.func50 rfl λc₀ cs hu=>?_;apply wpS_seq;apply wpS_region;simp [wpOpsS,go_sem,recoverD,hu,Tryz.ntmps50,Exit.thenS];refine wpS_of_wp ?_;simp only [Array.replicate_succ,Array.replicate_zero,List.push_toArray,List.nil_append,List.cons_append];go_wp2
 simp [bodyPostS,results,Tryz.results50]
end Go.Proofs.YtpheiojmcafolaaGreatDoor
