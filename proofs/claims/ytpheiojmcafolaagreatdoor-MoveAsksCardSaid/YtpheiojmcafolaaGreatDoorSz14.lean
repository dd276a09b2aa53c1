/-
 THE WALKS: package bag: kept, both, Has, All, Any, of values.
-/
import Derived.Test.YtpheiojmcafolaaGreatDoorSz13
set_option maxRecDepth 100000
set_option maxHeartbeats 25600000
namespace Go.Proofs.YtpheiojmcafolaaGreatDoor
open Go.RowKit Go.Sort
theorem Zn4 {ps:List NsM}{f:NsM->Bool}{k:Nat}{x:NsM}(hx:ps[k]? = some x):(ps.take (k+1)).filter f=(ps.take k).filter f++if f x=true then [x] else []:=by
 rw [List.take_add_one,hx,List.filter_append];cases h:f x <;> simp [h]
theorem Zyh (qs:List NsM)(Aq:Option Addr)(cq:Nat)(ps:List NsM)(Ap:Option Addr)(cp:Nat)(w:World)(hql:qs.length<=9223372036854775807)(hl:ps.length<=1000)(hq:X8 w Aq qs)(hs:X8 w Ap ps) :
 Calls Tryz.prog 153 #[.slice Ap ps.length cp,.func (.func 151) #[.slice Aq qs.length cq] #[]] w λr w'=>∃Ak ck,r=.returned (.slice Ak (ps.filter (λy=>qs.any (λq=>decide (q.e=y.e)))).length ck)/\RowKit.Below w.heap.size w w':=by
 obtain ⟨i0,hi,hz0,hz1,hz2⟩:=info_parts Zfd;have HQ:=Ld hq;have HS:=Ld hs;obtain ⟨P,hP⟩:∃P:NsM->Bool,P=λy=>qs.any (λq=>decide (q.e=y.e)):=⟨_,rfl⟩;rw [<-hP];have HP:=Ld hP;clear hq hs hP;go_enter Tryz.func153,Tryz.ntmps153
 go_wp2_with fail
 go_loopw [5,10] (λov kk wr=>∃(k:Nat) (ms:List NsM),kk=.int .i64 k/\k<=ps.length/\ms.length<=k/\Hid (ms=(ps.take k).filter P)/\Hid (wr.ownsRow w.heap.size 22 1 ov ms.length (Zr NsM.cells ms))/\RowKit.Below w.heap.size w wr) (λ_ kk _=>ps.length - (intOf kk).toNat)
 case atStart=>exact ⟨0,[],rfl,by omega,by simp,rfl,World.ownsRow_nil _ _ _ _,RowKit.Below.refl _ _⟩
 case round=>
  obtain ⟨k,ms,rfl,hk,hml,HM,HO,hbr⟩:=hrel;have hzr:=hbr.size;obtain ⟨Ao,co,hvo,hco⟩:=Vt HO.out;subst hvo;by_cases hlt:k < ps.length
  . obtain ⟨x,hx⟩:∃x,ps[k]? = some x:=⟨_,gE hlt⟩;obtain ⟨b1,o1,rfl,hb1,d0⟩:=V4 (HS.out.later hbr).sl hx;have HX:=Ld hx;have hcl:=Zmw x.e x.A x.c qs Aq cq wr hql (HQ.out.later hbr) ((HS.out.later hbr).good x (mG hx)).sl;have hpx:(qs.any (λq=>decide (q.e=x.e)))=P x:=(by rw [HP.out]);rw [hpx] at hcl;have HC:=Ld hcl;have HST:=Ld (Zn4 (f:=P) hx);clear hx hcl hpx;cases hh:P x with
    | true=>
     rw [hh] at HC;have HM2:Hid (ms ++ [x]=(ps.take (k+1)).filter P):=(by show _=_;rw [HST.out,hh,HM.out];rfl);clear hh;go_wp2_with fail
     refine HC.out.mono ?_;rintro r w1 ⟨rfl,hb2⟩;have hw1:=hbr.trans (hb2.mono hbr.size);have HO1:=Ld (Zu (Zu HO.out hb2) (by (repeat (first | assumption | exact bR | apply bD | apply Za | refine bA ?_ _)):RowKit.Below w1.heap.size w1 (w1.alloc (.cells #[.slice x.A x.e.length x.c] 22))));have HOL:Hid (∀q,(Value.slice Ao ms.length co).ownBlock=some q->w.heap.size<=q):=λq h=>(Yf HO.out h).1;have hzw1:=hw1.size;clear hb2 d0;go_wp2_with (at_builtin;refine wpList_append_own_at _ rfl (.tmp 17) (.tmp 19) 214 rfl w.heap.size 22 i0 _ 1 24 Tryz.underlying214 hi hz0 hz1 hz2 rfl (by omega) _ ms.length (Zr NsM.cells ms) rfl HO1.out ⟨w1.heap.size,0,none⟩ 1 1 [.slice x.A x.e.length x.c] rfl rfl (cell_one_new _ _ _) (by simp [Value.oneCell']) (by unfold maxLen;omega) (by omega) (by simp;omega) ?_;intro v6 w6 hown6 hgrow6 _ _;obtain ⟨A6,c6,hv6,hc6⟩:=Vt hown6;subst hv6)
     have hw6:RowKit.Below w.heap.size w w6:=RowKit.Below.grown (w:=w1.alloc (.cells #[.slice x.A x.e.length x.c] 22)) (by (repeat (first | assumption | exact bR | apply bD | apply Za | refine bA ?_ _))) hgrow6 (by simp;omega) (λq hq=>HOL.out q hq);have HO6:Hid (w6.ownsRow w.heap.size 22 1 (.slice A6 (ms.length+1) c6) (ms ++ [x]).length (Zr NsM.cells (ms ++ [x]))):=by
      show World.ownsRow _ _ _ _ _ _ _;rw [List.length_append,Q1];exact hown6
     clear hown6 hgrow6;go_wp2_with fail
     exact ⟨⟨k+1,ms ++ [x],by go_num,by omega,by simp;omega,HM2,HO6,hw6⟩,by simp [intOf];omega⟩
    | false=>
     rw [hh] at HC;have HM2:Hid (ms=(ps.take (k+1)).filter P):=(by show _=_;rw [HST.out,hh,HM.out];simp);clear hh;go_wp2_with fail
     refine HC.out.mono ?_;rintro r w1 ⟨rfl,hb2⟩;have hw1:=hbr.trans (hb2.mono hbr.size);have HO1:=Ld (Zu HO.out hb2);clear hb2 d0;go_wp2_with fail
     exact ⟨⟨k+1,ms,by go_num,by omega,by omega,HM2,HO1,hw1⟩,by simp [intOf];omega⟩
  . have HE:Hid (ms=ps.filter P):=by
     have:=HM.out;rw [List.take_of_length_le (by omega)] at this;exact this
    go_wp2_with fail
    go_ret
    exact ⟨Ao,co,by rw [<-HE.out];rfl,hbr⟩
structure Yr (v:List Nd)(A:Option Addr)(c:Nat)(w:World):Prop where
 ok:Zb v=0
 nd:Y0 v
 le:v.length<=c
 max:c<=9223372036854775807
 sl:Ye w w.heap.size A v
theorem Yr.later {v:List Nd}{A:Option Addr}{c:Nat}{w w':World}(h:Yr v A c w)(hb:RowKit.Below w.heap.size w w'):Yr v A c w':=⟨h.ok,h.nd,h.le,h.max,(h.sl.below hb).more hb.size⟩
theorem Yr.head {v:List Nd}{A:Option Addr}{c:Nat}{w:World}(h:Yr v A c w):∃(x:Nd) (r:List Nd) (b o:Nat),v=x :: r/\A=some ⟨b,o,none⟩/\b < w.heap.size/\Jj w b o x/\opH v=x.op/\nH v=x.n/\sH v=x.s/\udH v=⟨x.s,x.t⟩/\0 < v.length:=by
 obtain ⟨x,r,hv,-,-⟩:=((Z0 v).1 h.ok).2.ne;obtain ⟨b,o,hA,hb,hc⟩:=h.sl (by rw [hv];simp);have:=hc 0 x (by rw [hv];rfl);rw [Nat.zero_mul,Nat.add_zero] at this;exact ⟨x,r,b,o,hv,hA,hb,this,by rw [hv];rfl,by rw [hv];rfl,by rw [hv];rfl,by rw [hv];rfl,by rw [hv];simp⟩
theorem Zai {v:List Nd}(h:Zb v=0):(opH v=5->Kq v=.ok (Z8 v))/\(opH v=6->Kq v=.ok ((Z8 v).map List.tail))/\(opH v≠5->opH v≠6->Kq v=.bad 2):=by
 unfold Kq;rw [if_neg (by simp [h])];exact ⟨λh=>by rw [if_pos h],λh=>by rw [if_neg (by omega),if_pos h],λh1 h2=>by rw [if_neg h1,if_neg h2]⟩
def Zyu (w:World)(r:Ending)(w':World)(s t:List Nd):Prop:=
 (opH s=5/\opH t=5->∃Ap cp ms Bp dp ns,r=.returned (.tuple #[.slice Ap ms.length cp,.slice Bp ns.length dp,.nilIface])/\X8 w' Ap ms/\X8 w' Bp ns/\ms.map NsM.e=Z8 s/\ns.map NsM.e=Z8 t/\ms.length<=1000/\ns.length<=1000/\RowKit.Below w.heap.size w w') /\
 (¬(opH s=5/\opH t=5)->r=.returned (.tuple #[.slice none 0 0,.slice none 0 0,.iface 96 (.int .i64 2)])/\RowKit.Below w.heap.size w w')
theorem Zab {v:List Nd}(h:Zb v=0)(ho:opH v=5\/opH v=6):(Z8 v).length<=1000:=by
 obtain ⟨x,ps,hx,hl,hn,h5,h6,hxo,hpv,hox⟩:=Zhv h ho;rw [hpv];have h1:∀l:List (List Nd),(∀p∈l,p≠[])->l.length<=l.flatten.length:=by
  intro l;induction l with
  | nil=>simp
  | cons p r ih=>
   intro h;have a1:=ih (λq hq=>h q (by simp [hq]));have a2:=List.length_pos_iff.2 (h p (by simp));rw [List.flatten_cons,List.length_append,List.length_cons];omega
 have h2:=h1 ps (λp hp=>by
  rcases hxo with h | h
  . obtain ⟨y,r,e,_⟩:=(h5 h p hp).ne;rw [e];simp
  . obtain ⟨f,u,e,_⟩:=h6 h p hp;rw [e];simp)
 rw [hx,List.length_cons] at hl;omega
theorem Zpf (s t:List Nd)(A B:Option Addr)(c d:Nat)(w:World)(hs:Yr s A c w)(ht:Yr t B d w) :
 Calls Tryz.prog 152 #[.slice A s.length c,.slice B t.length d] w λr w'=>Zyu w r w' s t:=by
 have HVS:=Ld (λW (hW:RowKit.Below w.heap.size w W)=>by
  have h:=(hs.later hW);have g:=Ve s A c W h.le h.max h.nd h.sl;rw [hs.ok] at g;exact g)
 have HVT:=Ld (λW (hW:RowKit.Below w.heap.size w W)=>by
  have h:=(ht.later hW);have g:=Ve t B d W h.le h.max h.nd h.sl;rw [ht.ok] at g;exact g)
 have HPS:=Ld (λW (hW:RowKit.Below w.heap.size w W)=>by
  have h:=(hs.later hW);exact Zcj s A c W h.le h.max h.nd h.sl)
 have HPT:=Ld (λW (hW:RowKit.Below w.heap.size w W)=>by
  have h:=(ht.later hW);exact Zcj t B d W h.le h.max h.nd h.sl)
 have HRS:=Ld (Zai hs.ok);have HRT:=Ld (Zai ht.ok);have HFS:=Ld (λh=>Zab hs.ok h);have HFT:=Ld (λh=>Zab ht.ok h);obtain ⟨x,xr,bx,ox,hsx,rfl,hbx,⟨x0,-,-,-⟩,hox,-,-,-,hsl⟩:=hs.head;obtain ⟨y,yr,by_,oy,hty,rfl,hby,⟨y0,-,-,-⟩,hoy,-,-,-,htl⟩:=ht.head;have HOX:=Ld hox;have HOY:=Ld hoy;have hsl':(0:Int) < (s.length:Int):=by omega
 have htl':(0:Int) < (t.length:Int):=by omega
 clear hsx hty hs ht hox hoy hsl htl;have g0:∀W,(Instr.index 268 (.agg #[.slice (some ⟨bx,ox,none⟩) s.length c,.slice (some ⟨by_,oy,none⟩) t.length d]) (.int .i64 0)).run Tryz.prog W=.ok (.slice (some ⟨bx,ox,none⟩) s.length c) W:=λW=>by kernel_rfl
 have g1:∀W,(Instr.index 268 (.agg #[.slice (some ⟨bx,ox,none⟩) s.length c,.slice (some ⟨by_,oy,none⟩) t.length d]) (.int .i64 1)).run Tryz.prog W=.ok (.slice (some ⟨by_,oy,none⟩) t.length d) W:=λW=>by kernel_rfl
 have E2:Yh 2=.iface 96 (.int .i64 2):=rfl;by_cases k5:opH s=5
 . have tx:(x.op != 5)=false:=by rw [<-HOX.out];simp [k5]
   by_cases k6:opH t=5
   . have ty:(y.op != 5)=false:=(by rw [<-HOY.out];simp [k6]);go_enter Tryz.func152,Tryz.ntmps152
     go_wp2_with fail
     refine wp_loop_rounds 3 ?_;rw [rounds_succ];go_wp2_with fail
     refine (HVS.out w (RowKit.Below.refl _ _)).mono ?_;rintro r w1 ⟨rfl,hb1⟩;have HB1:=Ld hb1;have e0:=(hb1.cell (p:=⟨bx,ox,none⟩) hbx).trans x0;have f0:=(hb1.cell (p:=⟨by_,oy,none⟩) hby).trans y0;clear hb1 x0 y0;go_wp2_with fail
     rw [rounds_succ];go_wp2_with fail
     refine (HVT.out w1 HB1.out).mono ?_;rintro r w2 ⟨rfl,hb2⟩;have HB2:=Ld (HB1.out.trans (hb2.mono HB1.out.size));have e1:=(hb2.cell (p:=⟨bx,ox,none⟩) (by have:=HB1.out.size;show bx < _;omega)).trans e0;have f1:=(hb2.cell (p:=⟨by_,oy,none⟩) (by have:=HB1.out.size;show by_ < _;omega)).trans f0;clear hb2 e0 f0;go_wp2_with fail
     rw [rounds_succ];go_wp2_with fail
     have hz2:=HB2.out.size;refine (HPS.out w2 HB2.out).mono ?_;rintro r w3 ⟨Ap,cp,ms,rfl,h1,-,-,h4,h5,-,-⟩;rw [HRS.out.1 k5] at h1 ⊢;have HB3:=Ld (HB2.out.trans (h5.mono HB2.out.size));have e2:=(h5.cell (p:=⟨bx,ox,none⟩) (by show bx < _;omega)).trans e1;have f2:=(h5.cell (p:=⟨by_,oy,none⟩) (by show by_ < _;omega)).trans f1;have H1:=Ld h1;have H4:=Ld h4;clear h1 h4 h5 e1 f1;simp only [rsE,Zv];go_wp2_with fail
     have hz3:=HB3.out.size;refine (HPT.out w3 HB3.out).mono ?_;rintro r w4 ⟨Bp,dp,ns,rfl,h1,-,-,h4,h5,-,-⟩;rw [HRT.out.1 k6] at h1 ⊢;have HB4:=Ld (HB3.out.trans (h5.mono HB3.out.size));have H44:=Ld (H4.out.later h5);have f3:=(h5.cell (p:=⟨by_,oy,none⟩) (by show by_ < _;omega)).trans f2;have H1b:=Ld h1;have H4b:=Ld h4;clear h1 h4 h5 f2;simp only [rsE,Zv];go_wp2_with fail
     go_ret3
     refine ⟨λ_=>⟨Ap,cp,ms,Bp,dp,ns,rfl,H44.out,H4b.out,H1.out,H1b.out,?_,?_,HB4.out⟩,λh=>absurd ⟨k5,k6⟩ h⟩
     . have:=congrArg List.length H1.out;simp only [List.length_map,rsL] at this;have h2:=HFS.out (.inl k5);omega
     . have:=congrArg List.length H1b.out;simp only [List.length_map,rsL] at this;have h2:=HFT.out (.inl k6);omega
   . by_cases k66:opH t=6
     . have ty:(y.op != 5)=true:=(by rw [<-HOY.out];simp [k6]);go_enter Tryz.func152,Tryz.ntmps152
       go_wp2_with fail
       refine wp_loop_rounds 3 ?_;rw [rounds_succ];go_wp2_with fail
       refine (HVS.out w (RowKit.Below.refl _ _)).mono ?_;rintro r w1 ⟨rfl,hb1⟩;have HB1:=Ld hb1;have e0:=(hb1.cell (p:=⟨bx,ox,none⟩) hbx).trans x0;have f0:=(hb1.cell (p:=⟨by_,oy,none⟩) hby).trans y0;clear hb1 x0 y0;go_wp2_with fail
       rw [rounds_succ];go_wp2_with fail
       refine (HVT.out w1 HB1.out).mono ?_;rintro r w2 ⟨rfl,hb2⟩;have HB2:=Ld (HB1.out.trans (hb2.mono HB1.out.size));have e1:=(hb2.cell (p:=⟨bx,ox,none⟩) (by have:=HB1.out.size;show bx < _;omega)).trans e0;have f1:=(hb2.cell (p:=⟨by_,oy,none⟩) (by have:=HB1.out.size;show by_ < _;omega)).trans f0;clear hb2 e0 f0;go_wp2_with fail
       rw [rounds_succ];go_wp2_with fail
       have hz2:=HB2.out.size;refine (HPS.out w2 HB2.out).mono ?_;rintro r w3 ⟨Ap,cp,ms,rfl,h1,-,-,h4,h5,-,-⟩;rw [HRS.out.1 k5] at h1 ⊢;have HB3:=Ld (HB2.out.trans (h5.mono HB2.out.size));have e2:=(h5.cell (p:=⟨bx,ox,none⟩) (by show bx < _;omega)).trans e1;have f2:=(h5.cell (p:=⟨by_,oy,none⟩) (by show by_ < _;omega)).trans f1;have H1:=Ld h1;have H4:=Ld h4;clear h1 h4 h5 e1 f1;simp only [rsE,Zv];go_wp2_with fail
       have hz3:=HB3.out.size;refine (HPT.out w3 HB3.out).mono ?_;rintro r w4 ⟨Bp,dp,ns,rfl,h1,-,-,h4,h5,-,-⟩;rw [HRT.out.2.1 k66] at h1 ⊢;have HB4:=Ld (HB3.out.trans (h5.mono HB3.out.size));have H44:=Ld (H4.out.later h5);have f3:=(h5.cell (p:=⟨by_,oy,none⟩) (by show by_ < _;omega)).trans f2;have H1b:=Ld h1;have H4b:=Ld h4;clear h1 h4 h5 f2;simp only [rsE,Zv];go_wp2_with fail
       go_ret3
       exact ⟨λh=>absurd h (λh=>k6 h.2),λ_=>⟨rfl,HB4.out⟩⟩
     . have ty:(y.op != 5)=true:=(by rw [<-HOY.out];simp [k6]);go_enter Tryz.func152,Tryz.ntmps152
       go_wp2_with fail
       refine wp_loop_rounds 3 ?_;rw [rounds_succ];go_wp2_with fail
       refine (HVS.out w (RowKit.Below.refl _ _)).mono ?_;rintro r w1 ⟨rfl,hb1⟩;have HB1:=Ld hb1;have e0:=(hb1.cell (p:=⟨bx,ox,none⟩) hbx).trans x0;have f0:=(hb1.cell (p:=⟨by_,oy,none⟩) hby).trans y0;clear hb1 x0 y0;go_wp2_with fail
       rw [rounds_succ];go_wp2_with fail
       refine (HVT.out w1 HB1.out).mono ?_;rintro r w2 ⟨rfl,hb2⟩;have HB2:=Ld (HB1.out.trans (hb2.mono HB1.out.size));have e1:=(hb2.cell (p:=⟨bx,ox,none⟩) (by have:=HB1.out.size;show bx < _;omega)).trans e0;have f1:=(hb2.cell (p:=⟨by_,oy,none⟩) (by have:=HB1.out.size;show by_ < _;omega)).trans f0;clear hb2 e0 f0;go_wp2_with fail
       rw [rounds_succ];go_wp2_with fail
       have hz2:=HB2.out.size;refine (HPS.out w2 HB2.out).mono ?_;rintro r w3 ⟨Ap,cp,ms,rfl,h1,-,-,h4,h5,-,-⟩;rw [HRS.out.1 k5] at h1 ⊢;have HB3:=Ld (HB2.out.trans (h5.mono HB2.out.size));have e2:=(h5.cell (p:=⟨bx,ox,none⟩) (by show bx < _;omega)).trans e1;have f2:=(h5.cell (p:=⟨by_,oy,none⟩) (by show by_ < _;omega)).trans f1;have H1:=Ld h1;have H4:=Ld h4;clear h1 h4 h5 e1 f1;simp only [rsE,Zv];go_wp2_with fail
       have hz3:=HB3.out.size;refine (HPT.out w3 HB3.out).mono ?_;rintro r w4 ⟨Bp,dp,ns,rfl,h1,-,-,h4,h5,-,-⟩;rw [HRT.out.2.2 k6 k66] at h1 ⊢;have HB4:=Ld (HB3.out.trans (h5.mono HB3.out.size));have H44:=Ld (H4.out.later h5);have f3:=(h5.cell (p:=⟨by_,oy,none⟩) (by show by_ < _;omega)).trans f2;have H1b:=Ld h1;have H4b:=Ld h4;clear h1 h4 h5 f2;simp only [rsE,E2];go_wp2_with fail
       go_ret3
       exact ⟨λh=>absurd h (λh=>k6 h.2),λ_=>⟨rfl,HB4.out⟩⟩
 . by_cases k55:opH s=6
   . have tx:(x.op != 5)=true:=(by rw [<-HOX.out];simp [k5]);go_enter Tryz.func152,Tryz.ntmps152
     go_wp2_with fail
     refine wp_loop_rounds 3 ?_;rw [rounds_succ];go_wp2_with fail
     refine (HVS.out w (RowKit.Below.refl _ _)).mono ?_;rintro r w1 ⟨rfl,hb1⟩;have HB1:=Ld hb1;have e0:=(hb1.cell (p:=⟨bx,ox,none⟩) hbx).trans x0;have f0:=(hb1.cell (p:=⟨by_,oy,none⟩) hby).trans y0;clear hb1 x0 y0;go_wp2_with fail
     rw [rounds_succ];go_wp2_with fail
     refine (HVT.out w1 HB1.out).mono ?_;rintro r w2 ⟨rfl,hb2⟩;have HB2:=Ld (HB1.out.trans (hb2.mono HB1.out.size));have e1:=(hb2.cell (p:=⟨bx,ox,none⟩) (by have:=HB1.out.size;show bx < _;omega)).trans e0;have f1:=(hb2.cell (p:=⟨by_,oy,none⟩) (by have:=HB1.out.size;show by_ < _;omega)).trans f0;clear hb2 e0 f0;go_wp2_with fail
     rw [rounds_succ];go_wp2_with fail
     have hz2:=HB2.out.size;refine (HPS.out w2 HB2.out).mono ?_;rintro r w3 ⟨Ap,cp,ms,rfl,h1,-,-,h4,h5,-,-⟩;rw [HRS.out.2.1 k55] at h1 ⊢;have HB3:=Ld (HB2.out.trans (h5.mono HB2.out.size));have e2:=(h5.cell (p:=⟨bx,ox,none⟩) (by show bx < _;omega)).trans e1;have f2:=(h5.cell (p:=⟨by_,oy,none⟩) (by show by_ < _;omega)).trans f1;have H1:=Ld h1;have H4:=Ld h4;clear h1 h4 h5 e1 f1;simp only [rsE,Zv];go_wp2_with fail
     go_ret3
     exact ⟨λh=>absurd h (λh=>k5 h.1),λ_=>⟨rfl,HB3.out⟩⟩
   . have tx:(x.op != 5)=true:=(by rw [<-HOX.out];simp [k5]);go_enter Tryz.func152,Tryz.ntmps152
     go_wp2_with fail
     refine wp_loop_rounds 3 ?_;rw [rounds_succ];go_wp2_with fail
     refine (HVS.out w (RowKit.Below.refl _ _)).mono ?_;rintro r w1 ⟨rfl,hb1⟩;have HB1:=Ld hb1;have e0:=(hb1.cell (p:=⟨bx,ox,none⟩) hbx).trans x0;have f0:=(hb1.cell (p:=⟨by_,oy,none⟩) hby).trans y0;clear hb1 x0 y0;go_wp2_with fail
     rw [rounds_succ];go_wp2_with fail
     refine (HVT.out w1 HB1.out).mono ?_;rintro r w2 ⟨rfl,hb2⟩;have HB2:=Ld (HB1.out.trans (hb2.mono HB1.out.size));have e1:=(hb2.cell (p:=⟨bx,ox,none⟩) (by have:=HB1.out.size;show bx < _;omega)).trans e0;have f1:=(hb2.cell (p:=⟨by_,oy,none⟩) (by have:=HB1.out.size;show by_ < _;omega)).trans f0;clear hb2 e0 f0;go_wp2_with fail
     rw [rounds_succ];go_wp2_with fail
     have hz2:=HB2.out.size;refine (HPS.out w2 HB2.out).mono ?_;rintro r w3 ⟨Ap,cp,ms,rfl,h1,-,-,h4,h5,-,-⟩;rw [HRS.out.2.2 k5 k55] at h1 ⊢;have HB3:=Ld (HB2.out.trans (h5.mono HB2.out.size));have e2:=(h5.cell (p:=⟨bx,ox,none⟩) (by show bx < _;omega)).trans e1;have f2:=(h5.cell (p:=⟨by_,oy,none⟩) (by show by_ < _;omega)).trans f1;have H1:=Ld h1;have H4:=Ld h4;clear h1 h4 h5 e1 f1;simp only [rsE,Zv,E2];go_wp2_with fail
     go_ret3
     exact ⟨λh=>absurd h (λh=>k5 h.1),λ_=>⟨rfl,HB3.out⟩⟩
def Zi7 (w:World)(r:Ending)(w':World)(q:Rs Bool):Prop:=r=.returned (.tuple #[.bool (rsB q),Yh (rsE q)])/\RowKit.Below w.heap.size w w'
theorem Zvb (ms:List NsM)(v:List Nd):(ms.any λy=>decide (y.e=v))=((ms.map NsM.e).any λp=>decide (p=v)):=by rw [List.any_map];rfl
theorem Zfu (ms:List NsM)(v:List Nd):(ms.any λy=>decide (y.e=v))=decide (v∈ms.map NsM.e):=by
 rw [Bool.eq_iff_iff];simp
theorem Z1v (s t:List Nd)(A B:Option Addr)(c d:Nat)(w:World)(hs:Yr s A c w)(ht:Yr t B d w) :
 Calls Tryz.prog 121 #[.slice A s.length c,.slice B t.length d] w λr w'=>Zi7 w r w' (J1 s t):=by
 have HVS:=Ld (λW (hW:RowKit.Below w.heap.size w W)=>by
  have h:=(hs.later hW);have g:=Ve s A c W h.le h.max h.nd h.sl;rw [hs.ok] at g;exact g)
 have HVT:=Ld (λW (hW:RowKit.Below w.heap.size w W)=>by
  have h:=(ht.later hW);have g:=Ve t B d W h.le h.max h.nd h.sl;rw [ht.ok] at g;exact g)
 have HT:=Ld ht;obtain ⟨q,hq⟩:∃q,J1 s t=q:=⟨_,rfl⟩;rw [hq];have HQ:Hid (q=if opH s=5 then .ok ((Z8 s).any λp=>decide (p=t)) else .bad 2):=by
  show _=_;rw [<-hq];unfold J1;rw [if_neg (by simp [hs.ok]),if_neg (by simp [ht.ok])]
 have HPS:=Ld (λW (hW:RowKit.Below w.heap.size w W)=>by
  have h:=(hs.later hW);exact Zcj s A c W h.le h.max h.nd h.sl)
 have HRS:=Ld (Zai hs.ok);have HFS:=Ld (λh=>Zab hs.ok h);obtain ⟨x,xr,bx,ox,hsx,rfl,hbx,⟨x0,-,-,-⟩,hox,-,-,-,hsl⟩:=hs.head;have hsl':(0:Int) < (s.length:Int):=by omega
 have HOX:=Ld hox;clear hs ht hq hsx hox hsl;by_cases k5:opH s=5
 . have tx:(x.op != 5)=false:=by rw [<-HOX.out];simp [k5]
   have HR:Hid (q=.ok ((Z8 s).any λp=>decide (p=t))):=by show _=_;rw [HQ.out,if_pos k5]
   have K5:=Ld k5;clear k5 HQ;go_enter Tryz.func121,Tryz.ntmps121
   go_wp2_with fail
   refine (HVS.out w (RowKit.Below.refl _ _)).mono ?_;rintro r w1 ⟨rfl,hb1⟩;have HB1:=Ld hb1;have e0:=(hb1.cell (p:=⟨bx,ox,none⟩) hbx).trans x0;clear hb1 x0;go_wp2_with fail
   refine (HVT.out w1 HB1.out).mono ?_;rintro r w2 ⟨rfl,hb2⟩;have HB2:=Ld (HB1.out.trans (hb2.mono HB1.out.size));have e1:=(hb2.cell (p:=⟨bx,ox,none⟩) (by have:=HB1.out.size;show bx < _;omega)).trans e0;clear hb2 e0;go_wp2_with fail
   refine (HPS.out w2 HB2.out).mono ?_;rintro r w3 ⟨Ap,cp,ms,rfl,h1,-,-,h4,h5,-,-⟩;rw [HRS.out.1 K5.out] at h1 ⊢;have HB3:=Ld (HB2.out.trans (h5.mono HB2.out.size));have hml:ms.length<=1000:=by
    have:=congrArg List.length h1;simp only [List.length_map,rsL] at this;have h2:=HFS.out (.inl K5.out);omega
   have HH:=Ld (Zmw t B d ms Ap cp w3 (by omega) h4 (HT.out.later HB3.out).sl);have HE:Hid ((ms.any λy=>decide (y.e=t))=((Z8 s).any λp=>decide (p=t))):=by show _=_;rw [Zvb,h1];rfl
   clear h1 h4 h5 e1;simp only [rsE,Zv];go_wp2_with fail
   refine HH.out.mono ?_;rintro r w4 ⟨rfl,hb4⟩;have hw4:=HB3.out.trans (hb4.mono HB3.out.size);clear hb4;go_wp2_with fail
   go_ret2
   rw [HR.out,<-HE.out];exact ⟨rfl,hw4⟩
 . have tx:(x.op != 5)=true:=by rw [<-HOX.out];simp [k5]
   have HR:Hid (q=.bad 2):=by show _=_;rw [HQ.out,if_neg k5]
   clear k5 HQ;go_enter Tryz.func121,Tryz.ntmps121
   go_wp2_with fail
   refine (HVS.out w (RowKit.Below.refl _ _)).mono ?_;rintro r w1 ⟨rfl,hb1⟩;have HB1:=Ld hb1;have e0:=(hb1.cell (p:=⟨bx,ox,none⟩) hbx).trans x0;clear hb1 x0;go_wp2_with fail
   refine (HVT.out w1 HB1.out).mono ?_;rintro r w2 ⟨rfl,hb2⟩;have HB2:=Ld (HB1.out.trans (hb2.mono HB1.out.size));have e1:=(hb2.cell (p:=⟨bx,ox,none⟩) (by have:=HB1.out.size;show bx < _;omega)).trans e0;clear hb2 e0;go_wp2_with fail
   go_ret2
   rw [HR.out];exact ⟨rfl,HB2.out⟩
theorem Zyc (ms ns:List NsM):(((ns.filter (λy=>ms.any (λq=>decide (q.e=y.e)))).length:Int)==(ns.length:Int))=((ns.map NsM.e).all λp=>decide (p∈ms.map NsM.e)):=by
 rw [Bool.eq_iff_iff];simp only [beq_iff_eq,List.all_eq_true,List.mem_map,forall_exists_index,and_imp,forall_apply_eq_imp_iff₂];constructor
 . intro h y hy;have h1:(ns.filter (λy=>ms.any (λq=>decide (q.e=y.e)))).length=ns.length:=by omega
   have:=List.length_filter_eq_length_iff.1 h1 y hy;rw [Zfu] at this;simpa using this
 . intro h;have:(ns.filter (λy=>ms.any (λq=>decide (q.e=y.e)))).length=ns.length:=List.length_filter_eq_length_iff.2 (λy hy=>by
    rw [Zfu];simpa using h y hy)
   omega
theorem Zxq (ms ns:List NsM):(ns.any λy=>ms.any (λq=>decide (q.e=y.e)))=((ns.map NsM.e).any λp=>decide (p∈ms.map NsM.e)):=by
 rw [List.any_map];congr 1
 funext y
 rw [Zfu];rfl
theorem Zfz (f:List (List Nd)->List (List Nd)->Bool){s t:List Nd}(hs:Zb s=0)(ht:Zb t=0):Zan f s t=if opH s=5/\opH t=5 then .ok (f (Z8 s) (Z8 t)) else .bad 2:=by
 unfold Zan;rw [if_neg (by simp [hs]),if_neg (by simp [ht])]
theorem Z3m (s t:List Nd)(A B:Option Addr)(c d:Nat)(w:World)(hs:Yr s A c w)(ht:Yr t B d w) :
 Calls Tryz.prog 122 #[.slice A s.length c,.slice B t.length d] w λr w'=>Zi7 w r w' (Zeb s t):=by
 have HB:=Ld (Zpf s t A B c d w hs ht);have HQ:Hid (Zeb s t=if opH s=5/\opH t=5 then .ok ((Z8 t).all λp=>decide (p∈Z8 s)) else .bad 2):=Zfz _ hs.ok ht.ok;clear hs ht;by_cases k5:opH s=5/\opH t=5
 . rw [HQ.out,if_pos k5];have K5:=Ld k5;clear k5;obtain ⟨q,hq⟩:∃q,((Z8 t).all λp=>decide (p∈Z8 s))=q:=⟨_,rfl⟩;rw [hq];have HQQ:=Ld hq;clear hq HQ;go_enter Tryz.func122,Tryz.ntmps122
   go_wp2_with fail
   refine HB.out.mono ?_;rintro r w1 hpost;obtain ⟨Ap,cp,ms,Bp,dp,ns,rfl,h1,h2,h3,h4,h5,h6,h7⟩:=hpost.1 K5.out;have HK:=Ld (Zyh ms Ap cp ns Bp dp w1 (by omega) h6 h1 h2);have HE:Hid ((((ns.filter (λy=>ms.any (λq=>decide (q.e=y.e)))).length:Int)==(ns.length:Int))=q):=by show _=_;rw [Zyc,h3,h4,HQQ.out]
   have HB1:=Ld h7;clear hpost h1 h2 h3 h4 h7;generalize (ns.filter (λy=>ms.any (λq=>decide (q.e=y.e)))).length=L at HK HE;go_wp2_with fail
   refine HK.out.mono ?_;rintro r w2 ⟨Ak,ck,rfl,hb2⟩;have hw2:=HB1.out.trans (hb2.mono HB1.out.size);clear hb2;go_wp2_with fail
   go_ret2
   have e:=HE.out;refine ⟨?_,hw2⟩;rw [<-e];rfl
 . rw [HQ.out,if_neg k5];have K5:=Ld k5;clear k5 HQ;go_enter Tryz.func122,Tryz.ntmps122
   go_wp2_with fail
   refine HB.out.mono ?_;rintro r w1 hpost;obtain ⟨rfl,h7⟩:=hpost.2 K5.out;have HB1:=Ld h7;clear hpost h7;go_wp2_with fail
   go_ret2
   exact ⟨rfl,HB1.out⟩
theorem Z1i (s t:List Nd)(A B:Option Addr)(c d:Nat)(w:World)(hs:Yr s A c w)(ht:Yr t B d w) :
 Calls Tryz.prog 123 #[.slice A s.length c,.slice B t.length d] w λr w'=>Zi7 w r w' (Zee s t):=by
 have HB:=Ld (Zpf s t A B c d w hs ht);have HQ:Hid (Zee s t=if opH s=5/\opH t=5 then .ok ((Z8 t).any λp=>decide (p∈Z8 s)) else .bad 2):=Zfz _ hs.ok ht.ok;clear hs ht;by_cases k5:opH s=5/\opH t=5
 . rw [HQ.out,if_pos k5];have K5:=Ld k5;clear k5;obtain ⟨q,hq⟩:∃q,((Z8 t).any λp=>decide (p∈Z8 s))=q:=⟨_,rfl⟩;rw [hq];have HQQ:=Ld hq;clear hq HQ;go_enter Tryz.func123,Tryz.ntmps123
   go_wp2_with fail
   refine HB.out.mono ?_;rintro r w1 hpost;obtain ⟨Ap,cp,ms,Bp,dp,ns,rfl,h1,h2,h3,h4,h5,h6,h7⟩:=hpost.1 K5.out;have HK:=Ld (Zj9 ms Ap cp w1 h1 (by omega) ns Bp dp w1 (RowKit.Below.refl _ _) (by omega) h2);have HE:Hid ((ns.any λy=>ms.any (λq=>decide (q.e=y.e)))=q):=by show _=_;rw [Zxq,h3,h4,HQQ.out]
   rw [HE.out] at HK;have HB1:=Ld h7;clear hpost h1 h2 h3 h4 h7 HE;go_wp2_with fail
   refine HK.out.mono ?_;rintro r w2 ⟨rfl,hb2⟩;have hw2:=HB1.out.trans (hb2.mono HB1.out.size);clear hb2;go_wp2_with fail
   go_ret2
   exact ⟨rfl,hw2⟩
 . rw [HQ.out,if_neg k5];have K5:=Ld k5;clear k5 HQ;go_enter Tryz.func123,Tryz.ntmps123
   go_wp2_with fail
   refine HB.out.mono ?_;rintro r w1 hpost;obtain ⟨rfl,h7⟩:=hpost.2 K5.out;have HB1:=Ld h7;clear hpost h7;go_wp2_with fail
   go_ret2
   exact ⟨rfl,HB1.out⟩
end Go.Proofs.YtpheiojmcafolaaGreatDoor
namespace Go.Proofs.YtpheiojmcafolaaGreatDoor
def NdI (e:List Nd):Prop:=∀x∈e,I64 x.n
def Zbg (v:List Nd):Prop:=v=v/\NdI v
theorem Z0o {x:Nd}{r:List Nd}(h:Zb (x :: r)=0)(ho:x.op=5\/x.op=6):I64 x.n:=by
 obtain ⟨y,ps,e,_,hn,_,_,_,hp,_⟩:=Zhv h ho;have:=Zab h ho;rw [hp] at this;injection e with e _
 rw [e,hn];exact ⟨by omega,by omega⟩
theorem V5 (b:Bool):Zbg [bN b]:=⟨rfl,by intro x hx;simp at hx;subst hx;cases b <;> exact ⟨by decide,by decide⟩⟩
theorem Zpm {n:Int}(h:I64 n):Zbg [nN n]:=⟨rfl,by intro x hx;simp at hx;subst hx;exact h⟩
theorem Zz2 {op a b n:Int}(h:numR op a b=.ok n):I64 n:=by
 unfold numR at h;have key:∀m:Int,(if inR m=true then (Rs.ok m:Rs Int) else .bad 5)=.ok n->I64 n:=by
  intro m hm;split at hm
  . injection hm with hm;subst hm;rename_i hr;unfold inR at hr;simp only [Bool.and_eq_true,decide_eq_true_eq] at hr;exact hr
  . cases hm
 split at h
 . exact key _ h
 . split at h
   . exact key _ h
   . split at h
     . exact key _ h
     . cases h
theorem Zix (u:Ud):Zbg [eN u]:=⟨rfl,by intro x hx;simp at hx;subst hx;exact (⟨by decide,by decide⟩:I64 0)⟩
theorem NdI.sub {a b:List Nd}(h:NdI b)(hs:∀x∈a,x∈b):NdI a:=λx hx=>h x (hs x hx)
theorem Zml {vs:List (List Nd)}{v:List Nd}(hv:∀p∈vs,NdI p)(h:Qc vs=.ok v):Zbg v:=by
 have hvx:=Zm7 h;unfold Qc at h;split at h
 . cases h
 . rename_i hk;injection h with h
   subst h;unfold V7 at hk hvx ⊢;split at hk
   . rename_i h1;exact absurd h1 hk
   . rename_i h1;rw [if_neg h1] at hvx ⊢;split at hk
     . exact absurd (by decide) hk
     . rename_i h2;rw [if_neg h2] at hvx ⊢;unfold Yb at hvx;refine ⟨rfl,λx hx=>?_⟩;unfold Yb at hx;rcases List.mem_cons.1 hx with rfl | hx
       . exact Z0o hvx (.inl rfl)
       . obtain ⟨p,hp,hxp⟩:=List.mem_flatten.1 hx;exact hv p (Xk hp) x hxp
theorem Zr5 {fs:List (ByteArray × List Nd)}{v:List Nd}(hv:∀f∈fs,NdI f.2)(h:Ky fs=.ok v):Zbg v:=by
 have hvx:=Zm1 h;unfold Ky at h;split at h
 . cases h
 . split at h
   . cases h
   . injection h with h
     subst h;refine ⟨rfl,λx hx=>?_⟩;unfold Yx at hx hvx;rcases List.mem_cons.1 hx with rfl | hx
     . exact Z0o hvx (.inr rfl)
     . obtain ⟨p,hp,hxp⟩:=List.mem_flatten.1 hx;have hp':=(Zn _).mem_iff.1 hp;obtain ⟨f,hf,rfl⟩:=List.mem_map.1 hp';rcases List.mem_cons.1 hxp with rfl | hxp
       . exact (⟨by decide,by decide⟩:I64 0)
       . exact hv f hf x hxp
theorem Zxs {v:List Nd}(_h:Vx v)(hok:NdI v):Zbg v:=⟨rfl,hok⟩
theorem Zrd {v w:List Nd}{s:ByteArray}(hv:NdI v)(h:Js v s=.ok w):Zbg w:=by
 unfold Js at h;split at h
 . cases h
 . rename_i h0;have h0':Zb v=0:=Classical.not_not.1 h0;split at h
   . rename_i h6;split at h
     . rename_i p hp;injection h with h
       subst h;have hm:=List.mem_of_find?_eq_some hp;obtain ⟨f,u,rfl,_,hu⟩:=Zaz h0' h6 p hm;exact Zxs hu (hv.sub λx hx=>Zf1 hm x (List.mem_cons_of_mem _ hx))
     . cases h
   . cases h
structure EsI (es:List En):Prop where
 at_:∀e∈es,Zbg e.at_
structure RqI (q:Rq):Prop where
 ctx:Zbg q.ctx
theorem Zn2 {q:Rq}(hq:RqI q){s:List UInt8}{v:List Nd}(h:Jf q s=.ok v):Zbg v:=by
 unfold Jf at h;split at h
 . injection h with h;subst h;exact Zix q.who
 . split at h
   . injection h with h;subst h;exact Zix q.act
   . split at h
     . injection h with h;subst h;exact Zix q.what
     . split at h
       . injection h with h;subst h;exact hq.ctx
       . cases h
theorem Zmb {es:List En}(hes:EsI es){x:Nd}{v w:List Nd}(hv:Zbg v)(h:Yc es x v=.ok w):Zbg w:=by
 unfold Yc at h;split at h
 . obtain ⟨u,_,h2⟩:=Zm h;injection h2 with h2;subst h2;exact V5 _
 . split at h
   . obtain ⟨u,_,h2⟩:=Zm h;obtain ⟨n,hn,h3⟩:=Zm h2;injection h3 with h3;subst h3;exact Zpm (Zz2 hn)
   . split at h
     . obtain ⟨u,_,h2⟩:=Zm h;obtain ⟨n,_,h3⟩:=Zm h2;injection h3 with h3;subst h3;exact V5 _
     . split at h
       . obtain ⟨u,_,h2⟩:=Zm h;injection h2 with h2;subst h2;exact V5 _
       . obtain ⟨r,h1,h2⟩:=Zm h;cases r with
         | none=>
          simp only at h2;split at h2
          . injection h2 with h2;subst h2;exact V5 _
          . cases h2
         | some r=>
          simp only at h2;have hr:NdI r:=by
           unfold K8 at h1;split at h1
           . injection h1 with h1;injection h1 with h1;subst h1;exact hv.2
           . split at h1
             . injection h1 with h1
               obtain ⟨e,he,h1⟩:=Option.map_eq_some_iff.1 h1;subst h1;exact (hes.at_ e (List.mem_of_find?_eq_some he)).2
             . cases h1
          split at h2
          . split at h2 <;> (injection h2 with h2;subst h2;exact V5 _)
          . exact Zrd hr h2
theorem Zmf {es:List En}{op:Int}{a b w:List Nd}(h:Yn es op a b=.ok w):Zbg w:=by
 unfold Yn at h;split at h
 . injection h with h;subst h;exact V5 _
 . split at h
   . obtain ⟨u,_,h2⟩:=Zm h;injection h2 with h2;subst h2;exact V5 _
   . split at h
     . obtain ⟨u,_,h2⟩:=Zm h;injection h2 with h2;subst h2;exact V5 _
     . split at h
       . obtain ⟨u,_,h2⟩:=Zm h;injection h2 with h2;subst h2;exact V5 _
       . split at h
         . obtain ⟨u,_,h2⟩:=Zm h;injection h2 with h2;subst h2;exact V5 _
         . obtain ⟨u,_,h2⟩:=Zm h;obtain ⟨u',_,h3⟩:=Zm h2;split at h3
           . injection h3 with h3;subst h3;exact V5 _
           . split at h3
             . injection h3 with h3;subst h3;exact V5 _
             . obtain ⟨n,hn,h4⟩:=Zm h3;injection h4 with h4;subst h4;exact Zpm (Zz2 hn)
theorem Zlq {es:List En}{q:Rq}(hes:EsI es)(hq:RqI q):∀(k:Nat) (xs:List Nd) {v:List Nd},NdI xs->evE es q k xs=.ok v->Zbg v
 | 0,xs,v,_,h=>by cases h
 | k+1,[],v,_,h=>by cases h
 | k+1,x :: body,v,hx,h=>by
  have hxx:NdI [x]:=hx.sub (by intro y hy;simp at hy;simp [hy]);have hb:NdI body:=hx.sub λy hy=>List.mem_cons_of_mem _ hy;have hkid:∀p∈Va body.length body,NdI p:=λp hp=>hb.sub (Ze2 _ _ p hp);have ih:=λp v (hp:NdI p) (h:evE es q k p=.ok v)=>Zlq hes hq k p hp h;rw [evE] at h;split at h
  . injection h with h;subst h;exact ⟨rfl,hxx⟩
  . split at h
    . exact Zn2 hq h
    . generalize Va body.length body=ps at h hkid;split at h
      . obtain ⟨vs,h1,h2⟩:=Zm h;refine Zml (λp hp=>?_) h2;obtain ⟨y,hy,e⟩:=List.mem_map.1 ((Zfg h1).2 p hp);exact (ih y p (hkid y hy) e).2
      . obtain ⟨vs,h1,h2⟩:=Zm h;refine Zr5 (λf hf=>?_) h2;have hm:=List.of_mem_zip hf;obtain ⟨y,hy,e⟩:=List.mem_map.1 ((Zfg h1).2 f.2 hm.2);exact (ih y.tail f.2 ((hkid y hy).sub λz hz=>List.mem_of_mem_tail hz) e).2
      . rename_i a h5' h6';obtain ⟨u,h1,h2⟩:=Zm h;exact Zmb hes (ih a u (hkid a (by simp)) h1) h2
      . rename_i a b h5' h6';split at h
        . unfold Xm at h;obtain ⟨u,h1,h2⟩:=Zm h;split at h2
          . injection h2 with h2;subst h2;exact ih a _ (hkid a (by simp)) (Zc9 h1).1
          . exact ih b v (hkid b (by simp)) (Zc9 h2).1
        . obtain ⟨u,h1,h2⟩:=Zm h;obtain ⟨u',h3,h4⟩:=Zm h2;exact Zmf h4
      . rename_i c a b h5' h6';unfold Vm at h;obtain ⟨u,h1,h2⟩:=Zm h;split at h2
        . exact ih a v (hkid a (by simp)) h2
        . exact ih b v (hkid b (by simp)) h2
      . cases h
end Go.Proofs.YtpheiojmcafolaaGreatDoor
