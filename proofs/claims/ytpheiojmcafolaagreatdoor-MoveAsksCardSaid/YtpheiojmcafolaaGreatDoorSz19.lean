/-
 THE WALKS: pol.Expr.
-/
import Derived.Test.YtpheiojmcafolaaGreatDoorSz18
import Derived.Test.YtpheiojmcafolaaGreatDoorSz15
set_option maxRecDepth 100000
set_option maxHeartbeats 25600000
namespace Go.Proofs.YtpheiojmcafolaaGreatDoor
open Go.RowKit Go.Sort
theorem Zes (a b:NsM)(w:World)(ha:Yq w w.heap.size a)(hb:Yq w w.heap.size b)(na:a.e≠[])(nb:b.e≠[])(hl:a.e.length+b.e.length<=100000) :
 Calls Tryz.prog 54 #[.slice a.A a.e.length a.c,.slice b.A b.e.length b.c] w λr w'=>J6 w r w' (Jo a.e b.e):=by
 have H:=Ld (Zde (W:=w) (T:=22) (opN 11) [a,b] #[.slice a.A a.e.length a.c,.slice b.A b.e.length b.c] 2 2 (Jo a.e b.e) rfl rfl (by simp [Xl,Jo]) (by simpa using ⟨ha,hb⟩) (by simpa using ⟨na,nb⟩) (by simp [Xl];omega) (by simp));clear ha hb na nb hl;generalize Jo a.e b.e=L at H ⊢;go_enter Tryz.func54,Tryz.ntmps54
 go_wp2_with fail
 refine H.out.mono ?_;rintro r w2 ⟨A2,c2,rfl,hc2,hm2,hs2,hb2⟩;have HS:=Ld hs2;have HC:=Ld hc2;clear hs2 hc2;go_wp2_with fail
 go_ret
 exact ⟨A2,c2,rfl,HC.out,hm2,HS.out,hb2⟩
theorem Yq.of {W:World}{A:Option Addr}{c:Nat}{L:List Nd}(h1:Ye W W.heap.size A L)(h2:L.length<=c)(h3:c<=9223372036854775807):Yq W W.heap.size ⟨A,c,L⟩:=⟨h1,h2,h3⟩
def ExS (w w1:World)(p:Po)(W:World):Prop:=
 W.cell? ⟨w.heap.size,2,none⟩=some (.int .i64 p.who.op)/\W.cell? ⟨w.heap.size,3,none⟩=some (.string p.who.ty)/\W.cell? ⟨w.heap.size,4,none⟩=some (.string p.who.uid.ty)/\W.cell? ⟨w.heap.size,5,none⟩=some (.string p.who.uid.id)/\W.cell? ⟨w.heap.size,6,none⟩=some (.int .i64 p.act.op)/\W.cell? ⟨w.heap.size,7,none⟩=some (.string p.act.ty)/\W.cell? ⟨w.heap.size,8,none⟩=some (.string p.act.uid.ty)/\W.cell? ⟨w.heap.size,9,none⟩=some (.string p.act.uid.id)/\W.cell? ⟨w.heap.size,10,none⟩=some (.int .i64 p.what.op)/\W.cell? ⟨w.heap.size,11,none⟩=some (.string p.what.ty)/\W.cell? ⟨w.heap.size,12,none⟩=some (.string p.what.uid.ty)/\W.cell? ⟨w.heap.size,13,none⟩=some (.string p.what.uid.id)/\RowKit.Below w1.heap.size w1 W
theorem ExS.keep {w w1:World}{p:Po}{W W':World}(h:ExS w w1 p W)(hb:RowKit.Below W.heap.size W W')(hl:w.heap.size < w1.heap.size):ExS w w1 p W':=by
 obtain ⟨h1,h2,h3,h4,g1,g2,g3,g4,k1,k2,k3,k4,hw⟩:=h;have hz:=hw.size;have:=λi=>hb.cell (p:=⟨w.heap.size,i,none⟩) (show w.heap.size < W.heap.size by omega);exact ⟨(this _).trans h1,(this _).trans h2,(this _).trans h3,(this _).trans h4,(this _).trans g1,(this _).trans g2,(this _).trans g3,(this _).trans g4,(this _).trans k1,(this _).trans k2,(this _).trans k3,(this _).trans k4,hw.trans (hb.mono hz)⟩
theorem Zga (s:Sc)(v:ByteArray):Yt s v≠[]:=by
 unfold Yt;repeat' split
 all_goals simp
theorem U7 (s:Sc)(v:ByteArray):(Yt s v).length<=6:=by
 unfold Yt;repeat' split
 all_goals simp
theorem Zyz {cs:List CdM}(h:V8 (cs.map CdM.cd)=0):∀x∈cs,Zo x.e=0:=by
 induction cs with
 | nil=>simp
 | cons y r ih=>
  have e:V8 ((y :: r).map CdM.cd)=if Xe y.e≠0 then Xe y.e else V8 (r.map CdM.cd):=rfl;rw [e] at h;split at h
  . rename_i hn;exact absurd h hn
  . rename_i hn;intro x hx;rcases List.mem_cons.1 hx with rfl | hx
    . have hc:Xe x.e=0:=(by simpa using hn);unfold Xe at hc;split at hc
      . rename_i ht;exact absurd hc ht
      . rename_i ht;simpa using ht
    . exact ih h x hx
theorem Zva {p:Po}{cs:List CdM}(h:Ys p=0)(hp:p.conds=cs.map CdM.cd):cs.length<=4/\∀x∈cs,Zo x.e=0:=by
 unfold Ys at h;split at h
 . rename_i hn;exact absurd h hn
 . split at h
   . cases h
   . split at h
     . cases h
     . rename_i h4;rw [hp,List.length_map] at h4;rw [hp] at h;exact ⟨by omega,Zyz h⟩
def Ks (e0:List Nd)(cs:List CdM):List Nd:=cs.foldl (λe c=>Jo e (Uk c.cd)) e0
theorem Zrg {e0:List Nd}{cs:List CdM}{k:Nat}{x:CdM}(h:cs[k]? = some x):Ks e0 (cs.take (k+1))=Jo (Ks e0 (cs.take k)) (Uk x.cd):=by
 unfold Ks;rw [List.take_add_one,h,List.foldl_append];rfl
theorem Zye {x:CdM}(h:x.e.length<=200):(Uk x.cd).length<=201:=by
 unfold Uk;split
 . show (x.e.length+1)<=201;omega
 . show x.e.length<=201;omega
theorem Zyx {e0:List Nd}{cs:List CdM}(h0:e0.length<=20)(h:∀x∈cs,x.e.length<=200):(Ks e0 cs).length<=20+202*cs.length:=by
 suffices H:∀(cs:List CdM) (e0:List Nd),(∀x∈cs,x.e.length<=200)->(Ks e0 cs).length<=e0.length+202*cs.length by
  have:=H cs e0 h;omega
 intro cs;induction cs with
 | nil=>intro e0 _;simp [Ks]
 | cons y r ih=>
  intro e0 hh;have h1:=ih (Jo e0 (Uk y.cd)) λx hx=>hh x (List.mem_cons_of_mem _ hx);have h2:=Zye (hh y (List.mem_cons_self ..));simp only [List.length_cons,Zjf] at h1 ⊢;show (Ks (Jo e0 (Uk y.cd)) r).length<=_;omega
theorem Zuv (p:Po):(V1 p).length<=20:=by
 have k0:=U7 p.who prB;have k1:=U7 p.act acB;have k2:=U7 p.what reB;simp only [V1,Zjf];omega
theorem Zx2 {e0:List Nd}{cs:List CdM}(h:e0≠[]):Ks e0 cs≠[]:=by
 induction cs generalizing e0 with
 | nil=>exact h
 | cons y r ih=>exact ih (Znf _ _)
set_option maxRecDepth 100000 in
theorem Zx6 (p:Po)(cs:List CdM)(A:Option Addr)(c:Nat)(w:World)(hp:p.conds=cs.map CdM.cd)(hz:PoZ p)(hc:Zbe w w.heap.size A cs)(hl:cs.length<=9223372036854775807)(hk:Ys p=0) :
 Calls Tryz.prog 21 #[.agg #[.string p.name,.bool p.forbid,.int .i64 p.who.op,.string p.who.ty,.string p.who.uid.ty,.string p.who.uid.id,.int .i64 p.act.op,.string p.act.ty,.string p.act.uid.ty,.string p.act.uid.id,.int .i64 p.what.op,.string p.what.ty,.string p.what.uid.ty,.string p.what.uid.id,.slice A cs.length c]] w λe w'=>U4 w e w' (Yv p).1 (Yv p).2:=by
 have HK:=Ld (λ(W:World) h=>Ja p cs A c W hp hz h hl);rw [hk] at HK;have HP:=Ld hp;have HC:=Ld hc;have HKE:=Ld hk;have H0:=Ld (λW=>Zdl p.who prB W (by decide));have H1:=Ld (λW=>Zdl p.act acB W (by decide));have H2:=Ld (λW=>Zdl p.what reB W (by decide));clear hp hc hz hk;go_enter Tryz.func21,Tryz.ntmps21
 go_wp2_with fail
 refine (HK.out _ (HC.out.later (by (repeat (first | assumption | exact bR | apply bD | apply Za | refine bA ?_ _))))).mono ?_;rintro r w1 ⟨rfl,hb1⟩;have B1:=(Blk.new w 47 _).below hb1 (by simp);have hw1:Below w.heap.size w w1:=((Below.refl _ _).alloc (nL _) _).trans (hb1.mono (by simp));clear hb1 HK;have c1:=B1.cell;have l1:=B1.lt;go_wp2_with fail
 have HC1:=Ld (HC.out.later hw1);have HS0:Hid (ExS w w1 p w1.drew):=Ld ⟨c1 2,c1 3,c1 4,c1 5,c1 6,c1 7,c1 8,c1 9,c1 10,c1 11,c1 12,c1 13,(Below.refl _ _).drew⟩;go_region_held3 (λW=>(W.cell? ⟨w.heap.size,2,none⟩=some (.int .i64 p.who.op)/\W.cell? ⟨w.heap.size,3,none⟩=some (.string p.who.ty)/\W.cell? ⟨w.heap.size,4,none⟩=some (.string p.who.uid.ty)/\W.cell? ⟨w.heap.size,5,none⟩=some (.string p.who.uid.id)/\W.cell? ⟨w.heap.size,6,none⟩=some (.int .i64 p.act.op)/\W.cell? ⟨w.heap.size,7,none⟩=some (.string p.act.ty)/\W.cell? ⟨w.heap.size,8,none⟩=some (.string p.act.uid.ty)/\W.cell? ⟨w.heap.size,9,none⟩=some (.string p.act.uid.id)/\W.cell? ⟨w.heap.size,10,none⟩=some (.int .i64 p.what.op)/\W.cell? ⟨w.heap.size,11,none⟩=some (.string p.what.ty)/\W.cell? ⟨w.heap.size,12,none⟩=some (.string p.what.uid.ty)/\W.cell? ⟨w.heap.size,13,none⟩=some (.string p.what.uid.id)/\RowKit.Below w1.heap.size w1 W)) (first | exact HS0.out | exact ExS.keep (by assumption) hb l1)
  (first
   | (go_at_call 56;((with_reducible refine (H0.out _).mono ?_));rintro r W ⟨A0,c0,rfl,hc0,hm0,hs0,hb⟩;have g0:=Yq.of hs0 hc0 hm0;clear hc0 hm0 hs0)
   | (go_at_call 56;((with_reducible refine (H1.out _).mono ?_));rintro r W ⟨A1,c1',rfl,hc0,hm0,hs0,hb⟩;have g1:=Yq.of hs0 hc0 hm0;replace g0:=g0.later hb;clear hc0 hm0 hs0)
   | (go_at_call 56;((with_reducible refine (H2.out _).mono ?_));rintro r W ⟨A3,c3,rfl,hc0,hm0,hs0,hb⟩;have g3:=Yq.of hs0 hc0 hm0;replace g2:=g2.later hb;clear hc0 hm0 hs0)
   | (go_at_call 54;((with_reducible refine (Zes ⟨A0,c0,_⟩ ⟨A1,c1',_⟩ _ g0 g1 (Zga _ _) (Zga _ _) ?_).mono ?_));(have k0:=U7 p.who prB;have k1:=U7 p.act acB;simp only;omega);rintro r W ⟨A2,c2,rfl,hc0,hm0,hs0,hb⟩;have g2:=Yq.of hs0 hc0 hm0;clear hc0 hm0 hs0)
   | (go_at_call 54;((with_reducible refine (Zes ⟨A2,c2,_⟩ ⟨A3,c3,_⟩ _ g2 g3 (Znf _ _) (Zga _ _) ?_).mono ?_));(have k0:=U7 p.who prB;have k1:=U7 p.act acB;have k2:=U7 p.what reB;simp only [Zjf];omega);rintro r W ⟨A4,c4,rfl,hc0,hm0,hs0,hb⟩;have g4:=Yq.of hs0 hc0 hm0;clear hc0 hm0 hs0))
 have hS:ExS w w1 p W:=by assumption
 obtain ⟨-,-,-,-,-,-,-,-,-,-,-,-,hwW⟩:=hS;have c14:W.cell? ⟨w.heap.size,14,none⟩=some (.slice A cs.length c):=(hwW.cell (p:=⟨w.heap.size,14,none⟩) l1).trans (c1 14);have lW:w.heap.size < W.heap.size:=by have:=hwW.size;omega
 have HG:=Ld (show Yq W W.heap.size ⟨A4,c4,V1 p⟩ from g4);have HCW:=Ld (HC1.out.later hwW);have hbW:=hw1.trans (hwW.mono hw1.size);have HSM:=Ld (Zva HKE.out HP.out);have hl4:=HSM.out.1;have HLE:=Ld (Zuv p);have HNE:Hid (V1 p≠[]):=Ld (Znf _ _);have HEX:Hid (Yv p=if 200 < (Ks (V1 p) cs).length then ([],4) else (Ks (V1 p) cs,0)):=by
  show _=_;unfold Yv;rw [if_neg (by rw [HKE.out];simp)];have:Vo p=Ks (V1 p) cs:=by unfold Vo Ks;rw [HP.out,List.foldl_map]
  rw [this]
 generalize he0:V1 p=e0 at HG HLE HNE HEX g4;have HE0:=Ld he0;clear he0;clear g4 g3 g2 g1 g0 c1 HS0 HC1 HP HKE HC H0 H1 H2;go_wp2_with fail
 go_loopw [6,31] (λev ii wr=>∃(k:Nat) (Ae:Option Addr) (ce:Nat),ii=.int .i64 k/\ev=.slice Ae (Ks e0 (cs.take k)).length ce/\k<=cs.length/\Hid (Yq wr wr.heap.size ⟨Ae,ce,Ks e0 (cs.take k)⟩)/\RowKit.Below W.heap.size W wr) (λ_ ii _=>cs.length - (intOf ii).toNat)
 case atStart=>exact ⟨0,A4,c4,rfl,by rw [<-HE0.out];rfl,by omega,HG,RowKit.Below.refl _ _⟩
 case round=>
  obtain ⟨k,Ae,ce,rfl,rfl,hk,HGk,hbr⟩:=hrel;have hzr:=hbr.size;by_cases hlt:k < cs.length
  . obtain ⟨⟨u,Ax,cx,e⟩,hx⟩:∃x,cs[k]? = some x:=⟨_,gE hlt⟩;have hg:=(HCW.out.later hbr).good _ (mG hx);have het:e.length<=200/\0 < e.length:=Zca (HSM.out.2 _ (mG hx));obtain ⟨b,o,rfl,hb,⟨d0,d1⟩⟩:=Zmx (HCW.out.later hbr).sl hx;have HST:=Ld (Zrg (e0:=e0) hx);have hne1:Ks e0 (cs.take k)≠[]:=Zx2 HNE.out;have hle1:(Ks e0 (cs.take k)).length<=20+202*4:=Nat.le_trans (Zyx HLE.out λx hx=>(Zca (HSM.out.2 x (List.mem_of_mem_take hx))).1) (by rw [List.length_take];omega);have hx1:Yq wr wr.heap.size ⟨Ax,cx,e⟩:=⟨hg.sl,hg.le,hg.max⟩;have hen:e≠[]:=(by intro h;subst h;exact absurd het.2 (by simp));have HL2:Hid ((Uk ⟨true,e⟩).length=e.length+1):=rfl;generalize Ks e0 (cs.take k)=L at HGk hne1 hle1 HST;have HA:=Ld (λW' (hW:RowKit.Below wr.heap.size wr W')=>Zes ⟨Ae,ce,L⟩ ⟨Ax,cx,e⟩ W' (HGk.out.later hW) (hx1.later hW) hne1 hen (by have:=het.1;show L.length+e.length<=100000;omega));have HO:=Ld (λW' (hW:RowKit.Below wr.heap.size wr W')=>Zde (W:=W') (T:=22) (opN 9) [⟨Ax,cx,e⟩] #[.slice Ax e.length cx] 1 1 (Uk ⟨true,e⟩) rfl rfl (by simp [Uk,Xl]) (by simpa using hx1.later hW) (by simpa using hen) (by simp [Xl];omega) (by simp));have HA2:=Ld (λW' A2 c2 (hW:RowKit.Below wr.heap.size wr W') g2=>Zes ⟨Ae,ce,L⟩ ⟨A2,c2,Uk ⟨true,e⟩⟩ W' (HGk.out.later hW) g2 hne1 (List.cons_ne_nil _ _) (by have:=het.1;show L.length+(Uk ⟨true,e⟩).length<=100000;rw [HL2.out];omega));clear hx hg hx1 hne1 hen HGk HL2;have hbw:b < wr.heap.size:=hb;cases u with
    | false=>
     go_wp2_with fail
     refine (HA.out _ (by (repeat (first | assumption | exact bR | apply bD | apply Za | refine bA ?_ _)))).mono ?_;rintro r w5 ⟨A5,c5,rfl,hc5,hm5,hs5,hb5⟩;have hb5':RowKit.Below W.heap.size W w5:=(hbr.alloc hzr _).trans (hb5.mono (by simp;omega));have HN:=Ld (Yq.of hs5 hc5 hm5);clear hs5 hc5 hb5;go_wp2_with fail
     have hst:=HST.out;have hcd:Uk ⟨false,e⟩=e:=rfl;simp only [CdM.cd,hcd] at hst;exact ⟨⟨k+1,A5,c5,by go_num,by rw [hst],by omega,by rw [hst];exact HN,hb5'⟩,by simp [intOf];omega⟩
    | true=>
     go_wp2_with fail
     generalize hw2:wr.alloc _=w2;have hbw2:RowKit.Below wr.heap.size wr w2:=(by rw [<-hw2];(repeat (first | assumption | exact bR | apply bD | apply Za | refine bA ?_ _)));have hz2:wr.heap.size+1=w2.heap.size:=(by rw [<-hw2];simp);clear hw2;rw [hz2];refine (HO.out _ hbw2).mono ?_;rintro r w4 ⟨A5,c5,rfl,hc5,hm5,hs5,hb5⟩;have hbw4:=hbw2.trans (hb5.mono hbw2.size);have HG5:=Ld (Yq.of hs5 hc5 hm5);clear hs5 hc5 hb5;go_wp2_with fail
     refine (HA2.out _ A5 c5 hbw4 HG5.out).mono ?_;rintro r w5 ⟨A6,c6,rfl,hc6,hm6,hs6,hb6⟩;have hb6':RowKit.Below W.heap.size W w5:=hbr.trans ((hbw4.trans (hb6.mono hbw4.size)).mono hzr);have HN:=Ld (Yq.of hs6 hc6 hm6);clear hs6 hc6 hb6 hbw4 hbw2;go_wp2_with fail
     have hst:=HST.out;simp only [CdM.cd] at hst;exact ⟨⟨k+1,A6,c6,by go_num,by rw [hst],by omega,by rw [hst];exact HN,hb6'⟩,by simp [intOf];omega⟩
  . have HT:Hid (cs.take k=cs):=(by show _=_;rw [List.take_of_length_le (by omega)]);rw [HT.out] at HGk ⊢;generalize Ks e0 cs=L at HGk HEX ⊢;by_cases h2:200 < L.length
    . have t2:200 < (L.length:Int):=(by omega);have HV:Hid (Yv p=([],4)):=(by show _=_;rw [HEX.out,if_pos h2]);clear h2;go_wp2_with fail
      go_ret2
      rw [HV.out];exact U4.none (k:=4) (hbW.trans (hbr.mono hbW.size))
    . have t2:¬200 < (L.length:Int):=(by omega);have HV:Hid (Yv p=(L,0)):=(by show _=_;rw [HEX.out,if_neg h2]);clear h2;go_wp2_with fail
      go_ret2
      rw [HV.out];exact ⟨Ae,ce,rfl,HGk.out.le,HGk.out.max,HGk.out.sl,hbW.trans (hbr.mono hbW.size)⟩
theorem Zop (p:Po)(cs:List CdM)(A:Option Addr)(c:Nat)(w:World)(hp:p.conds=cs.map CdM.cd)(hz:PoZ p)(hc:Zbe w w.heap.size A cs)(hl:cs.length<=9223372036854775807)(hk:¬Ys p=0) :
 Calls Tryz.prog 21 #[.agg #[.string p.name,.bool p.forbid,.int .i64 p.who.op,.string p.who.ty,.string p.who.uid.ty,.string p.who.uid.id,.int .i64 p.act.op,.string p.act.ty,.string p.act.uid.ty,.string p.act.uid.id,.int .i64 p.what.op,.string p.what.ty,.string p.what.uid.ty,.string p.what.uid.id,.slice A cs.length c]] w λe w'=>U4 w e w' (Yv p).1 (Yv p).2:=by
 have HK:=Ld (λ(W:World) h=>Ja p cs A c W hp hz h hl);have HC:=Ld hc;have HE:Hid (Yv p=([],Ys p)):=by show _=_;unfold Yv;rw [if_pos hk]
 rw [HE.out];have tk:(Ys p != 0)=true:=by simp [hk]
 clear hp hc hz hk HE;generalize Ys p=k at HK tk ⊢;go_enter Tryz.func21,Tryz.ntmps21
 go_wp2_with fail
 refine (HK.out _ (HC.out.later (by (repeat (first | assumption | exact bR | apply bD | apply Za | refine bA ?_ _))))).mono ?_;rintro r w1 ⟨rfl,hb1⟩;have hw1:RowKit.Below w.heap.size w w1:=((RowKit.Below.refl _ _).alloc (nL _) _).trans (hb1.mono (by simp));clear hb1 HK;go_wp2_with fail
 go_ret2
 exact U4.none hw1
theorem Zay (p:Po)(cs:List CdM)(A:Option Addr)(c:Nat)(w:World)(hp:p.conds=cs.map CdM.cd)(hz:PoZ p)(hc:Zbe w w.heap.size A cs)(hl:cs.length<=9223372036854775807) :
 Calls Tryz.prog 21 #[.agg #[.string p.name,.bool p.forbid,.int .i64 p.who.op,.string p.who.ty,.string p.who.uid.ty,.string p.who.uid.id,.int .i64 p.act.op,.string p.act.ty,.string p.act.uid.ty,.string p.act.uid.id,.int .i64 p.what.op,.string p.what.ty,.string p.what.uid.ty,.string p.what.uid.id,.slice A cs.length c]] w λe w'=>U4 w e w' (Yv p).1 (Yv p).2:=by
 by_cases hk:Ys p=0
 . exact Zx6 p cs A c w hp hz hc hl hk
 . exact Zop p cs A c w hp hz hc hl hk
end Go.Proofs.YtpheiojmcafolaaGreatDoor
namespace Go.Proofs.YtpheiojmcafolaaGreatDoor
open Go.RowKit
theorem Qd {p:Po}(h:(Yv p).2=0):Ys p=0/\(Yv p).1=Vo p/\Zo (Yv p).1=0:=by
 unfold Yv at h ⊢;by_cases hk:Ys p=0
 . rw [if_neg (by simp [hk])] at h ⊢;by_cases hb:200 < (Vo p).length
   . rw [if_pos hb] at h;simp at h
   . rw [if_neg hb];refine ⟨hk,rfl,(Xd _).2 ⟨by show (Vo p).length<=200;omega,?_⟩⟩;obtain ⟨_,h1,h2,h3,_,h5⟩:=Zdb.1 hk;exact Zp0 (Zam (Zam (Jm h1 Zcw) (Jm h2 Zcp)) (Jm h3 Zcl)) (Zei h5)
 . rw [if_pos hk] at h;exact absurd h hk
theorem Zdv (s:Sc)(v:ByteArray):∀x∈Yt s v,¬x.op=2:=by
 intro x hx;unfold Yt at hx;(repeat' split at hx) <;> simp only [List.mem_cons,List.not_mem_nil,or_false,opN,Xz,Zae] at hx <;> (rcases hx with rfl | rfl | rfl | rfl | rfl | rfl) <;> simp
theorem Zqi {p:Po}(h:∀c∈p.conds,NdI c.expr):∀x∈Vo p,x.op=2->I64 x.n:=by
 have key:∀(l:List Cd) (e:List Nd),(∀c∈l,NdI c.expr)->(∀x∈e,x.op=2->I64 x.n)->∀x∈l.foldl (λe c=>Jo e (Uk c)) e,x.op=2->I64 x.n:=by
  intro l;induction l with
  | nil=>intro e _ he;exact he
  | cons c l ih=>
   intro e hl he;refine ih _ (λd hd=>hl d (List.mem_cons_of_mem _ hd)) λx hx h2=>?_;simp only [Jo,List.mem_cons,List.mem_append] at hx;rcases hx with rfl | hx | hx
   . exact absurd h2 (by simp [opN])
   . exact he x hx h2
   . unfold Uk at hx;split at hx
     . rcases List.mem_cons.1 hx with rfl | hx
       . exact absurd h2 (by simp [opN])
       . exact hl c (List.mem_cons_self ..) x hx
     . exact hl c (List.mem_cons_self ..) x hx
 refine key p.conds (V1 p) h λx hx h2=>?_;unfold V1 at hx;simp only [Jo,List.mem_cons,List.mem_append] at hx;rcases hx with rfl | (rfl | hx | hx) | hx
 . exact absurd h2 (by simp [opN])
 . exact absurd h2 (by simp [opN])
 . exact absurd h2 (Zdv _ _ x hx)
 . exact absurd h2 (Zdv _ _ x hx)
 . exact absurd h2 (Zdv _ _ x hx)
theorem Zwz {p:Po}(h:(Yv p).2=0)(hc:∀c∈p.conds,NdI c.expr):NdI (Yv p).1:=by
 obtain ⟨_,h2,h3⟩:=Qd h;exact Zjc h3 (by rw [h2];exact Zqi hc)
def nmQ (x:PoM):List UInt8:=x.p.name.toList
def fbQ (x:PoM):Bool:=x.p.forbid
def Zuh (x:PoM):Int:=Ys x.p
def Zpx (x:PoM):Int:=if (Yv x.p).2≠0 then (Yv x.p).2 else if X0 x.p = [] then 0 else 1
def Zlk (ps:List PoM):Int:=Ze9 nmQ Zuh Zpx ps
def vtQ (es:List En)(q:Rq)(x:PoM):Int:=match Jd es q (Yv x.p).1 with
 | .ok v=>if opH v=1 then (if nH v=1 then 1 else 0) else -1
 | .bad _=>-1
theorem Zny {α:Type}{nm:α->List UInt8}{pe1 pe2:α->Int}{ps:List α}{k:Nat}{x:α}(hx:ps[k]? = some x)(met:List (List UInt8)) :
 Zau nm pe1 pe2 (ps.drop k) met=if pe1 x≠0 then pe1 x else if nm x∈met then 6 else if pe2 x≠0 then pe2 x else Zau nm pe1 pe2 (ps.drop (k+1)) (met ++ [nm x]):=by
 obtain ⟨h1,h2⟩:=List.getElem?_eq_some_iff.1 hx;rw [List.drop_eq_getElem_cons h1,h2];rfl
theorem Qi {ps:List PoM}(h:Zlk ps=0):ps.length<=12/\(∀x∈ps,Ys x.p=0/\(Yv x.p).2=0/\X0 x.p = [])/\(ps.map nmQ).Nodup:=by
 obtain ⟨h1,h2,h3⟩:=(Ztv nmQ Zuh Zpx ps).1 h;refine ⟨h1,λx hx=>?_,h3⟩;obtain ⟨g1,g2⟩:=h2 x hx;refine ⟨g1,?_⟩;unfold Zpx at g2;by_cases e:(Yv x.p).2=0
 . rw [if_neg (by simp [e])] at g2;refine ⟨e,?_⟩;by_cases s:X0 x.p = []
   . exact s
   . rw [if_neg s] at g2;simp at g2
 . rw [if_pos e] at g2;exact absurd g2 e
structure Aq where
 es:List En
 hs:List Eh
 Ea:Option Addr
 ec:Nat
 q:Rq
 qa:Option Addr
 qc:Nat
def Znk (k1 k2 k3:Int):Int:=if k1≠0 then k1 else if k2≠0 then k2 else k3
def X2 (x:Aq)(ps:List PoM):Int:=Znk (Ym x.es) (Zlk ps) (Vr x.q)
theorem Zb5 {a b c:Int}(h:Znk a b c=0):a=0/\b=0/\c=0:=by
 unfold Znk at h;split at h
 . rename_i h1;exact absurd h h1
 . split at h
   . rename_i h1;exact absurd h h1
   . rename_i h1 h2;exact ⟨by simpa using h1,by simpa using h2,h⟩
end Go.Proofs.YtpheiojmcafolaaGreatDoor
