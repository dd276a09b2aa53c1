/-
 THE WALKS: ent.one.
-/
import Derived.Test.YtpheiojmcafolaaGreatDoorSz09
import Derived.Lib.SliceRun
set_option maxRecDepth 100000
set_option maxHeartbeats 25600000
namespace Go.Proofs.YtpheiojmcafolaaGreatDoor
open Go.RowKit Go.Sort
structure Z5x (b0 b1:Nat)(h:Eh)(p:Ud)(W:World):Prop where
 s0:W.cell? ⟨b0,2,none⟩=some (.slice h.ua h.un h.uc)
 s1:W.cell? ⟨b1,0,none⟩=some (.string p.ty)
 s2:W.cell? ⟨b1,1,none⟩=some (.string p.id)
theorem SlG.take {α:Type}{enc:α->List Value}{k:Nat}{w:World}{B:Nat}{A:Option Addr}{xs:List α}(h:SlG enc k w B A xs)(n:Nat):SlG enc k w B A (xs.take n):=λhne=>by
 have hx:xs≠[]:=by rintro rfl;simp at hne
 obtain ⟨b,o,e,hb,hc⟩:=h hx;refine ⟨b,o,e,hb,λi x hi=>hc i x ?_⟩;rw [List.getElem?_take] at hi;split at hi
 . exact hi
 . cases hi
theorem Zm6 {ups:List Ud}{k:Nat}{p:Ud}(h:ups[k]? = some p):Znc ups k=if Zw p≠0 then Zw p else if p∈ups.take k then 6 else 0:=by unfold Znc;rw [h]
theorem Z04 (h:Eh)(e:En)(w:World)(hk:Zph w w.heap.size h e)(hu:∀p∈e.up,Km p)(hok:Y0 e.at_) :
 Calls Tryz.prog 60 #[.agg #[.string h.u.ty,.string h.u.id,.slice h.ua h.un h.uc,.slice h.aa h.an h.ac]] w λr w'=>r=.returned (Yh (Vu e))/\RowKit.Below w.heap.size w w':=by
 obtain ⟨hh1,hun,huc,hup,han,hac,hat⟩:=hk;obtain ⟨v,hv⟩:∃v,Vu e=v:=⟨_,rfl⟩;rw [hv];have HV:=Ld hv;clear hv hh1;obtain ⟨hu0,ua,un,uc,aa,an,ac⟩:=h;simp only at hun huc hup han hac hat ⊢;subst hun han;have hw0:RowKit.Below w.heap.size w (w.alloc (.cells #[.string hu0.ty,.string hu0.id,.slice ua e.up.length uc,.slice aa e.at_.length ac] 109)):=by (repeat (first | assumption | exact bR | apply bD | apply Za | refine bA ?_ _))
 have g2:(w.alloc (.cells #[.string hu0.ty,.string hu0.id,.slice ua e.up.length uc,.slice aa e.at_.length ac] 109)).cell? ⟨w.heap.size,2,none⟩=some (.slice ua e.up.length uc):=by rw [World.cell?_alloc_new];rfl
 have g3:(w.alloc (.cells #[.string hu0.ty,.string hu0.id,.slice ua e.up.length uc,.slice aa e.at_.length ac] 109)).cell? ⟨w.heap.size,3,none⟩=some (.slice aa e.at_.length ac):=by rw [World.cell?_alloc_new];rfl
 have HU:=Ld hup;have HA:=Ld hat;have HUU:=Ld hu;have hac1:=hac.1;have hac2:=hac.2;have huc1:=huc.1;have huc2:=huc.2;clear hup hat hu hac huc;by_cases h6:6 < e.up.length
 . have HE:Hid (v=4):=by show _=_;rw [<-HV.out];unfold Vu;rw [if_pos h6]
   have t6:decide ((6:Int) < (e.up.length:Int))=true:=by simp;omega
   go_enter Tryz.func60,Tryz.ntmps60
   go_wp2_with fail
   go_ret
   rw [HE.out];exact ⟨rfl,hw0⟩
 . have t6:decide ((6:Int) < (e.up.length:Int))=false:=by simp;omega
   have HE:Hid (v=if Ur e.up≠0 then Ur e.up else if Zb e.at_≠0 then Zb e.at_ else if opH e.at_=6 then 0 else 2):=by
    show _=_;rw [<-HV.out];unfold Vu;rw [if_neg h6]
   clear HV h6;go_enter Tryz.func60,Tryz.ntmps60
   go_wp2_with fail
   obtain ⟨W,hW⟩:∃W,w.alloc (.cells #[.string hu0.ty,.string hu0.id,.slice ua e.up.length uc,.slice aa e.at_.length ac] 109)=W:=⟨_,rfl⟩;have hWz:W.heap.size=w.heap.size+1:=by rw [<-hW];simp
   have HWZ:=Ld hWz;rw [hW] at hw0 g2 g3 ⊢;clear hW hWz t6;have hWlt:w.heap.size < W.heap.size:=by have:=HWZ.out;omega
   go_loopw [16] (λkk wr=>∃k:Nat,kk=.int .i64 k/\k<=e.up.length/\Hid (∀j,j < k->Znc e.up j=0)/\RowKit.Below W.heap.size W wr) (λkk _=>e.up.length - (intOf kk).toNat)
   case atStart=>exact ⟨0,rfl,by omega,by intro j hj;omega,RowKit.Below.refl _ _⟩
   case round=>
    obtain ⟨k,rfl,hk,HK,hbr⟩:=hrel;have hzr:=hbr.size;have f2:=(hbr.cell (p:=⟨w.heap.size,2,none⟩) hWlt).trans g2;have f3:=(hbr.cell (p:=⟨w.heap.size,3,none⟩) hWlt).trans g3;have hbw:RowKit.Below w.heap.size w wr:=hw0.trans (hbr.mono (by omega));by_cases hlt:k < e.up.length
    . obtain ⟨p,hp⟩:∃p,e.up[k]? = some p:=⟨_,gE hlt⟩;obtain ⟨b1,o1,rfl,hb1,d0,d1⟩:=Zc6 (HU.out.below hbw) hp;have HP:=Ld hp;have HW:=Ld (λW=>Uw p W (HUU.out p (mG hp)));clear hp;by_cases he:Zw p=0
      . have te:(Zw p != 0)=false:=(by simp [he]);have HEP:=Ld he;clear he;go_wp2_with fail
        refine (HW.out _).mono ?_;rintro r w1 ⟨rfl,hb1'⟩;obtain ⟨hcc1,hff1⟩:=Xi hb1';have hw1:RowKit.Below W.heap.size W w1:=(hbr.alloc hzr _).trans (hb1'.mono (by simp;omega));have hz1:=hw1.size;have hz1':wr.heap.size < w1.heap.size:=(by have:=hb1'.size;simp at this;omega);have e2:=(hw1.cell (p:=⟨w.heap.size,2,none⟩) hWlt).trans g2;clear hb1';have q:∀(W:World),(Instr.slice 107 (.slice (some ⟨b1,o1,none⟩) e.up.length uc) none (some (.int .i64 (k:Int))) none).run Tryz.prog W=.ok (.slice (some ⟨b1,o1,none⟩) k uc) W:=by
         intro W;go_simp
         intro h;omega
        have hb1w:b1 < w.heap.size:=hb1;have HCO:=Ld (λW' (hW':RowKit.Below w.heap.size w W')=>by
         have h:=Znq (e.up.take k) p (some ⟨b1,o1,none⟩) uc W' (by rw [List.length_take];omega) (SlG.take ((HU.out.below hW').more hW'.size) k);rw [List.length_take,Nat.min_eq_left (by omega)] at h;exact h)
        have ev0:w1.cell? ⟨wr.heap.size,0,none⟩=some (.string p.ty):=(by rw [hcc1 _ _ (by simp)];simp [World.cell?_alloc_new]);have ev1:w1.cell? ⟨wr.heap.size,1,none⟩=some (.string p.id):=(by rw [hcc1 _ _ (by simp)];simp [World.cell?_alloc_new]);clear hcc1 hff1 d0 d1;cases hm:decide (p∈e.up.take k) with
        | true=>
         rw [hm] at HCO;have HM:=Ld hm;clear hm;go_wp2_with fail
         refine Yg (S:=Z5x w.heap.size wr.heap.size ⟨hu0,some ⟨b1,o1,none⟩,e.up.length,uc,aa,e.at_.length,ac⟩ p) [false,false,false,false,false,true] (by kernel_rfl) (by kernel_rfl) (λ_ _ _ _ _ h=>h) ⟨e2,ev0,ev1⟩ (λhW'=>?_);simp only [List.zip_cons_cons,List.zip_nil_left];(repeat ((first | (refine Ze (v:=?_) (by rfl) ?_ ?_;rotate_left;(focus (intro W hW;obtain ⟨s0,s1,s2⟩:=hW;go_simp;try with_reducible rfl))) | refine Zd (by rfl) ?_);simp only [Act.put,pA,pB,pC]))
         refine Zc (λK hK=>?_);go_simp
         refine (HCO.out w1.drew (hw0.trans (hw1.drew.mono (by omega)))).mono ?_;rintro r w2 ⟨rfl,hb2'⟩;have hb2:=Ya hb2';obtain ⟨hcc2,-⟩:=Xi hb2;have hw2:RowKit.Below W.heap.size W w2:=hw1.trans (hb2.mono hz1);refine hK _ _ ⟨(hcc2 _ _ (by omega)).trans e2,(hcc2 _ _ hz1').trans ev0,(hcc2 _ _ hz1').trans ev1⟩ ?_;clear hK K hcc2 hb2';refine Yj ?_;go_wp2_with fail
         go_ret
         have h1:Znc e.up k=6:=by
          have:=HM.out;rw [Zm6 HP.out,if_neg (by simp [HEP.out]),if_pos (by simpa using this)]
         have h2:Ur e.up=6:=(by unfold Ur;rw [Zg8 (k:=k) HK.out (by rw [h1];omega) hlt,h1]);rw [HE.out,h2];exact ⟨rfl,hw0.trans (hw2.mono (by omega))⟩
        | false=>
         rw [hm] at HCO;have HM:=Ld hm;clear hm;go_wp2_with fail
         refine Yg (S:=Z5x w.heap.size wr.heap.size ⟨hu0,some ⟨b1,o1,none⟩,e.up.length,uc,aa,e.at_.length,ac⟩ p) [false,false,false,false,false,true] (by kernel_rfl) (by kernel_rfl) (λ_ _ _ _ _ h=>h) ⟨e2,ev0,ev1⟩ (λhW'=>?_);simp only [List.zip_cons_cons,List.zip_nil_left];(repeat ((first | (refine Ze (v:=?_) (by rfl) ?_ ?_;rotate_left;(focus (intro W hW;obtain ⟨s0,s1,s2⟩:=hW;go_simp;try with_reducible rfl))) | refine Zd (by rfl) ?_);simp only [Act.put,pA,pB,pC]))
         refine Zc (λK hK=>?_);go_simp
         refine (HCO.out w1.drew (hw0.trans (hw1.drew.mono (by omega)))).mono ?_;rintro r w2 ⟨rfl,hb2'⟩;have hb2:=Ya hb2';obtain ⟨hcc2,-⟩:=Xi hb2;have hw2:RowKit.Below W.heap.size W w2:=hw1.trans (hb2.mono hz1);refine hK _ _ ⟨(hcc2 _ _ (by omega)).trans e2,(hcc2 _ _ hz1').trans ev0,(hcc2 _ _ hz1').trans ev1⟩ ?_;clear hK K hcc2 hb2';refine Yj ?_;go_wp2_with fail
         have HK2:Hid (∀j,j < k+1->Znc e.up j=0):=by
          intro j hj;rcases Nat.lt_or_ge j k with h | h
          . exact HK.out j h
          . obtain rfl:j=k:=(by omega);have:=HM.out;rw [Zm6 HP.out,if_neg (by simp [HEP.out]),if_neg (by simpa using this)]
         exact ⟨⟨k+1,by go_num,by omega,HK2,hw2⟩,by simp [intOf];omega⟩
      . have te:(Zw p != 0)=true:=(by simp [he]);have HEP:Hid (v=Zw p):=by
         have h1:Znc e.up k=Zw p:=(by rw [Zm6 HP.out,if_pos he]);have h2:Ur e.up=Zw p:=(by unfold Ur;rw [Zg8 (k:=k) HK.out (by rw [h1];exact he) hlt,h1]);show _=_;rw [HE.out,h2,if_pos he]
        clear he;go_wp2_with fail
        refine (HW.out _).mono ?_;rintro r w1 ⟨rfl,hb1'⟩;have hw1:RowKit.Below w.heap.size w w1:=(hbw.alloc (by omega) _).trans (hb1'.mono (by simp;omega));clear hb1';go_wp2_with fail
        go_ret
        rw [HEP.out];exact ⟨rfl,hw1⟩
    . have HU0:Hid (Ur e.up=0):=by
       show _=_;exact Zax λj hj=>HK.out j (by omega)
      have HVC:=Ld (Ve e.at_ aa ac wr hac1 hac2 hok ((HA.out.below hbw).more hbw.size));clear g2 f2;by_cases hve:Zb e.at_=0
      . have te:(Zb e.at_ != 0)=false:=(by simp [hve]);have hne:e.at_≠[]:=by
         have:=((Z0 e.at_).1 hve).2;obtain ⟨x,r,hx,_⟩:=this.ne;rw [hx];simp
        obtain ⟨x,xs,hxs⟩:∃x xs,e.at_=x :: xs:=by
         cases hh:e.at_ with
         | nil=>exact absurd hh hne
         | cons x xs=>exact ⟨x,xs,rfl⟩
        obtain ⟨b2,o2,rfl,hb2,hcs⟩:=HA.out hne;have d0:=(hcs 0 x (by rw [hxs];rfl)).c0;rw [Nat.zero_mul,Nat.add_zero] at d0;have HO:Hid (opH e.at_=x.op):=(by show _=_;rw [hxs];rfl);have hl0:0 < e.at_.length:=(by rw [hxs];simp);have hl0':(0:Int) < (e.at_.length:Int):=(by omega);have HVE:=Ld hve;clear hcs hxs hve hne;go_wp2_with fail
        refine HVC.out.mono ?_;rintro r w1 ⟨rfl,hb1⟩;have hw1:RowKit.Below w.heap.size w w1:=hbw.trans (hb1.mono (by omega));have e3:=(hb1.cell (p:=⟨w.heap.size,3,none⟩) (by show w.heap.size < _;omega)).trans f3;have e0:=(hw1.cell (p:=⟨b2,o2,none⟩) hb2).trans d0;clear hb1 f3 d0 g3;by_cases h6:x.op=6
        . have t6:(x.op != 6)=false:=(by simp [h6]);have HR:Hid (v=0):=(by show _=_;rw [HE.out,HU0.out,HVE.out,HO.out];simp [h6]);clear h6;go_wp2_with fail
          go_ret
          rw [HR.out];exact ⟨rfl,hw1⟩
        . have t6:(x.op != 6)=true:=(by simp [h6]);have HR:Hid (v=2):=(by show _=_;rw [HE.out,HU0.out,HVE.out,HO.out];simp [h6]);clear h6;go_wp2_with fail
          go_ret
          rw [HR.out];exact ⟨rfl,hw1⟩
      . have te:(Zb e.at_ != 0)=true:=(by simp [hve]);have HR:Hid (v=Zb e.at_):=(by show _=_;rw [HE.out,HU0.out];simp [hve]);clear hve;go_wp2_with fail
        refine HVC.out.mono ?_;rintro r w1 ⟨rfl,hb1⟩;have hw1:RowKit.Below w.heap.size w w1:=hbw.trans (hb1.mono (by omega));clear hb1;go_wp2_with fail
        go_ret
        rw [HR.out];exact ⟨rfl,hw1⟩
theorem Zzo (es:List En)(k:Nat):∀ps:List Ud,(∀p∈ps,p∈es.flatMap En.up)->∀m:List Ud,(Zbd es k m ps).length+unm es (Zbd es k m ps)<=m.length+unm es m:=by
 intro ps;induction ps with
 | nil=>intro _ m;exact nL _
 | cons p ps ih=>
  intro hp m;have h1:=ih (λq hq=>hp q (by simp [hq])) (if p∈m then m else abv es k p (m ++ [p]));refine Nat.le_trans (by exact h1) ?_;split
  . exact nL _
  . rename_i hm;have h2:=Zty es k p (m ++ [p]);have h3:=Zsl (hp p (by simp)) hm;simp at h2;omega
theorem Zh0 (hs:List Eh)(A:Option Addr)(c:Nat)(w:World)(hl:hs.length<=100)(hsl:Zz8 w w.heap.size A hs)(hz:∀h∈hs,Za2 h.u)(hn:(hs.map Eh.u).Nodup) :
 Calls Tryz.prog 61 #[.slice A hs.length c] w λr w'=>∃b,r=.returned (.map (some b))/\w.heap.size<=b/\Zba w' b hs/\RowKit.Below w.heap.size w w':=by
 have hmm:=@run_makeMap Tryz.prog;have HS:=Ld hsl;have HZ:=Ld hz;have HN:=Ld hn;have hw0:RowKit.Below w.heap.size w (w.alloc (.map #[] 0)):=by (repeat (first | assumption | exact bR | apply bD | apply Za | refine bA ?_ _))
 have HST0:=Ld (Zzh w);clear hsl hz hn;go_enter Tryz.func61,Tryz.ntmps61
 go_wp2_with fail
 go_loopw [9] (λkk wr=>∃k:Nat,kk=.int .i64 k/\k<=hs.length/\Hid (Zba wr w.heap.size (hs.take k))/\RowKit.Below w.heap.size w wr) (λkk _=>hs.length - (intOf kk).toNat)
 case atStart=>exact ⟨0,rfl,by omega,HST0.out,hw0⟩
 case round=>
  obtain ⟨k,rfl,hk,HST,hbr⟩:=hrel;have hzr:=hbr.size;by_cases hlt:k < hs.length
  . obtain ⟨x,hx⟩:∃x,hs[k]? = some x:=⟨_,gE hlt⟩;obtain ⟨b1,o1,rfl,hb1,d0,d1,d2,d3⟩:=Zc7 (HS.out.below hbr) hx;have hnm:x.u ∉ (hs.take k).map Eh.u:=by
     have h1:=HN.out;rw [<-List.take_append_drop k hs,List.map_append,List.nodup_append] at h1;intro hm;have h2:x.u∈(hs.drop k).map Eh.u:=List.mem_map.2 ⟨x,mG (i:=0) (by rw [List.getElem?_drop];exact hx),rfl⟩;exact h1.2.2 _ hm _ h2 rfl
    obtain ⟨w',hr,hst,hg⟩:=Z2m ((HST.out.kept (World.grownBy_alloc wr (.cells #[.string x.u.ty,.string x.u.id,.slice x.ua x.un x.uc,.slice x.aa x.an x.ac] 109) none) (by simp))) (HZ.out x (mG hx)) hnm (by rw [List.length_take];omega);have HST2:Hid (Zba w' w.heap.size (hs.take (k+1))):=(by show Zba _ _ _;rw [List.take_add_one,hx];exact hst);have hb2:RowKit.Below w.heap.size w w':=(hbr.alloc hzr _).grown hg (by simp;omega) (λj hj=>by injection hj with hj;omega);clear hst hg hx hnm;unfold ehW at hr;go_wp2_with fail
    exact ⟨⟨k+1,by go_num,by omega,HST2,hb2⟩,by simp [intOf];omega⟩
  . have HE:Hid (hs.take k=hs):=(by show _=_;rw [List.take_of_length_le (by omega)]);rw [HE.out] at HST;go_wp2_with fail
    go_ret
    exact ⟨_,rfl,nL _,HST.out,hbr⟩
structure Zrl (w:World)(B sb mb:Nat)(hs:List Eh)(es:List En)(met:List Ud):Prop where
 sto:Zba w sb hs
 met:Kg w mb met
 ens:Ens w B hs es
 bs:B<=sb
 bm:B<=mb
 ne:sb≠mb
theorem Zb1 {w w':World}{B mb:Nat}(hg:w.grownBy w' (some mb))(hB:B<=w.heap.size)(hm:B<=mb):RowKit.Below B w w':=
 ⟨hg.os,hg.tape,hg.output,hg.size,λk hk=>hg.block k (by omega) (by intro h;injection h with h;omega)⟩
theorem Zrl.step {w w':World}{B sb mb:Nat}{hs:List Eh}{es:List En}{met met':List Ud}(h:Zrl w B sb mb hs es met)(hg:w.grownBy w' (some mb))(hm:Kg w' mb met'):Zrl w' B sb mb hs es met':=
 ⟨h.sto.kept hg (by intro e;injection e with e;exact h.ne e),hm,h.ens.below (Zb1 hg (by have:=h.sto.lt;have:=h.bs;omega) h.bm),h.bs,h.bm,h.ne⟩
def Z0r (es:List En)(k:Nat):Prop:=∀(hs:List Eh) (u:Ud) (met:List Ud) (w:World) (B sb mb:Nat),Zrl w B sb mb hs es met->Za2 u->unm es met < k->met.length+unm es met<=1000 ->
 Calls Tryz.prog 62 #[.map (some sb),.agg #[.string u.ty,.string u.id],.map (some mb)] w λr w'=>r=.returned (.tuple #[])/\Kg w' mb (abv es k u met)/\w.grownBy w' (some mb)
theorem Zr3 (es:List En)(hp:∀p∈es.flatMap En.up,Za2 p)(k:Nat)(ih:Z0r es k):Z0r es (k+1):=by
 intro hs u met w B sb mb hI hu hk hl;have hI0:Zrl (w.alloc (.cells #[.string u.ty,.string u.id] 34)) B sb mb hs es met:=hI.step (World.grownBy_alloc _ _ _) (hI.met.kept (World.grownBy_alloc w (.cells #[.string u.ty,.string u.id] 34) none) (by simp));have hlook:=Zyg hI0.sto hu;obtain ⟨e1,e2,e3,e4⟩:=Z0m hI.ens u;have HP:Hid (∀p∈Zc2 es u,p∈es.flatMap En.up):=λp hp=>Zpc hp;have HA:Hid (abv es (k+1) u met=Zbd es k met (Zc2 es u)):=Zi1 es k u met;rw [HA.out];obtain ⟨⟨v0,ua,un,uc,aa,an,ac⟩,hh0⟩:∃h0,atU hs u=h0:=⟨_,rfl⟩;rw [hh0] at hlook e1 e2 e3 e4;simp only at e1 e2 e3 e4;subst e1;unfold ehW at hlook;simp only at hlook;generalize Zc2 es u=ps at *;have hfd:∀W:World,(Instr.field 109 (.agg #[.string v0.ty,.string v0.id,.slice ua ps.length uc,.slice aa an ac]) 1).run Tryz.prog W=.ok (.slice ua ps.length uc) W:=λ_=>by kernel_rfl
 have HI:=Ld hI;have HU:=Ld e2;have HIH:=Ld ih;have HPP:=Ld hp;have hmb:=hI.met.lt;have hbm:=hI.bm;have hB:B<=w.heap.size:=by have:=hI.sto.lt;have:=hI.bs;omega
 clear hI hI0 hh0 e2 ih hp HA;go_enter Tryz.func62,Tryz.ntmps62
 go_wp2_with fail
 go_loopw [13] (λkk wr=>∃j:Nat,kk=.int .i64 j/\j<=ps.length/\Hid (Kg wr mb (Zbd es k met (ps.take j)))/\Hid (w.grownBy wr (some mb))) (λkk _=>ps.length - (intOf kk).toNat)
 case atStart=>exact ⟨0,rfl,by omega,HI.out.met.kept (World.grownBy_alloc w _ none) (by simp),World.grownBy_alloc _ _ _⟩
 case round=>
  obtain ⟨j,rfl,hj,HM,HG⟩:=hrel;have hzr:=HG.out.size;by_cases hlt:j < ps.length
  . obtain ⟨p,hp⟩:∃p,ps[j]? = some p:=⟨_,gE hlt⟩;obtain ⟨b1,o1,rfl,hb1,d0,d1⟩:=Zc6 (HU.out.below (Zb1 HG.out hB hbm)) hp;have hpm:=HP.out p (mG hp);have HPS:=HPP.out p hpm;have HT:Hid (ps.take (j+1)=ps.take j ++ [p]):=(by show _=_;rw [List.take_add_one,hp];rfl);have HMK:Hid (∀x∈met,x∈Zbd es k met (ps.take j)):=Zlo es k _ _;have HCN:Hid ((Zbd es k met (ps.take j)).length+unm es (Zbd es k met (ps.take j))<=met.length+unm es met):=Zzo es k _ (λq hq=>HP.out q (List.mem_of_mem_take hq)) met;have HSN:Hid (Zbd es k met (ps.take (j+1))=if p∈Zbd es k met (ps.take j) then Zbd es k met (ps.take j) else abv es k p (Zbd es k met (ps.take j) ++ [p])):=(by show _=_;rw [HT.out,Zwp]);have HSM:=Ld HPS;have HPM:=Ld hpm;clear HPS hpm hp HT;generalize Zbd es k met (ps.take j)=m at HM HMK HCN HSN;have hM1:Kg (wr.alloc (.cells #[.string p.ty,.string p.id] 34)) mb m:=HM.out.kept (World.grownBy_alloc wr _ none) (by simp);have hlk:=Zi9 hM1 HSM.out;have HM1:=Ld hM1;clear hM1;have HG1:Hid (w.grownBy (wr.alloc (.cells #[.string p.ty,.string p.id] 34)) (some mb)):=HG.out.trans (World.grownBy_alloc _ _ _);by_cases hm:p∈m
    . rw [if_pos hm] at hlk;have HH:=Ld hm;clear hm;go_wp2_with fail
      refine ⟨⟨j+1,by go_num,by omega,?_,HG1⟩,by simp [intOf];omega⟩;show Kg _ _ _;rw [HSN.out,if_pos HH.out];exact HM1.out
    . rw [if_neg hm] at hlk;obtain ⟨w2,hr2,hM2,hg2⟩:=Zsw HM1.out HSM.out (by have:=HCN.out;omega);have hsz2:wr.heap.size < w2.heap.size:=(by have:=hg2.size;simp at this;omega);have g0:w2.cell? ⟨wr.heap.size,0,none⟩=some (.string p.ty):=by
       rw [World.cell?_of_block (hg2.block wr.heap.size (by simp) (by intro e;injection e with e;omega))];simp [World.cell?_alloc_new]
      have g1:w2.cell? ⟨wr.heap.size,1,none⟩=some (.string p.id):=by
       rw [World.cell?_of_block (a:=⟨wr.heap.size,1,none⟩) (hg2.block wr.heap.size (by simp) (by intro e;injection e with e;omega))];simp [World.cell?_alloc_new]
      have HG2:Hid (w.grownBy w2 (some mb)):=HG1.out.trans hg2;have hun:unm es (m ++ [p]) < unm es m:=Zsl HPM.out hm;have hum:unm es m<=unm es met:=Z4r HMK.out;have HC:=Ld (HIH.out hs p (m ++ [p]) w2 B sb mb (HI.out.step HG2.out hM2) HSM.out (by omega) (by have:=HCN.out;simp;omega));have HH:=Ld hm;clear hm hg2 hM2 hun hum;go_wp2_with fail
      refine HC.out.mono ?_;rintro r w3 ⟨rfl,hM3,hg3⟩;have HM3:=Ld hM3;have HG3:Hid (w.grownBy w3 (some mb)):=HG2.out.trans hg3;clear hM3 hg3 hr2 g0 g1 hlk;go_wp2_with fail
      refine ⟨⟨j+1,by go_num,by omega,?_,HG3⟩,by simp [intOf];omega⟩;show Kg _ _ _;rw [HSN.out,if_neg HH.out];exact HM3.out
  . have HE:Hid (ps.take j=ps):=(by show _=_;rw [List.take_of_length_le (by omega)]);rw [HE.out] at HM;go_wp2_with fail
    simp [bodyPost,results,Tryz.results62,go_sem];exact ⟨HM.out,HG.out⟩
theorem Zgb (es:List En)(hp:∀p∈es.flatMap En.up,Za2 p):∀k,Z0r es k
 | 0=>λ_ _ _ _ _ _ _ _ _ h=>by omega
 | k+1=>Zr3 es hp k (Zgb es hp k)
end Go.Proofs.YtpheiojmcafolaaGreatDoor
namespace Go.Proofs.YtpheiojmcafolaaGreatDoor
open Go.RowKit Go.Sort Go.Maps
structure Jg (w:World)(A:Option Addr)(hs:List Eh)(es:List En):Prop where
 sl:Zz8 w w.heap.size A hs
 ens:Ens w w.heap.size hs es
 uz:∀e∈es,Km e.u
 pz:∀e∈es,∀p∈e.up,Km p
 az:∀e∈es,Y0 e.at_
theorem Jg.later {w w':World}{A:Option Addr}{hs:List Eh}{es:List En}(h:Jg w A hs es)(hb:RowKit.Below w.heap.size w w'):Jg w' A hs es:=
 ⟨h.sl.later hb,(h.ens.below hb).more hb.size,h.uz,h.pz,h.az⟩
theorem Zc4 {w:World}{B:Nat}:∀{hs:List Eh} {es:List En},Ens w B hs es->hs.map Eh.u=es.map En.u
 | [],[],_=>rfl
 | [],_ :: _,h=>by have:=h.len;simp at this
 | _ :: _,[],h=>by have:=h.len;simp at this
 | x :: hs,e :: es,h=>by
  have h0:=h.at_ 0 x e rfl rfl;rw [List.map_cons,List.map_cons,Zc4 h.tail,h0.u]
theorem Zyp (hs:List Eh)(u:Ud):Zj4 hs u=decide (u∈hs.map Eh.u):=by
 unfold Zj4;rw [Bool.eq_iff_iff];simp
theorem Z1r {w:World}{B:Nat}{hs:List Eh}{es:List En}(h:Ens w B hs es)(k:Nat)(u:Ud):Zj4 (hs.take k) u=decide (u∈(es.take k).map En.u):=by
 rw [Zyp,List.map_take,List.map_take,Zc4 h]
theorem Zak {u:Ud}(h:Km u):Za2 u:=⟨by have:=h.1;unfold maxLen;omega,by have:=h.2;unfold maxLen;omega⟩
theorem Zo4 {es:List En}{k:Nat}{e:En}(h:es[k]? = some e):Uj es k=if Zw e.u≠0 then Zw e.u else if e.u∈(es.take k).map En.u then 6 else Vu e:=by unfold Uj;rw [h]
theorem Zbj {es:List En}{k:Nat}{e:En}(h:es[k]? = some e)(h0:Uj es k=0):Zw e.u=0/\e.u ∉ (es.take k).map En.u/\Vu e=0:=by
 rw [Zo4 h] at h0;by_cases h1:Zw e.u=0
 . rw [if_neg (by simp [h1])] at h0;by_cases h2:e.u∈(es.take k).map En.u
   . rw [if_pos h2] at h0;omega
   . rw [if_neg h2] at h0;exact ⟨h1,h2,h0⟩
 . rw [if_pos h1] at h0;exact absurd h0 h1
theorem Zdq {es:List En}:∀n,(∀j,j < n->Uj es j=0)->((es.take n).map En.u).Nodup
 | 0,_=>by simp
 | n+1,h=>by
  have ih:=Zdq n (λj hj=>h j (by omega));cases hx:es[n]? with
  | none=>rw [List.take_add_one,hx];simpa using ih
  | some e=>
   have:=(Zbj hx (h n (by omega))).2.1;rw [List.take_add_one,hx,List.map_append,List.nodup_append];refine ⟨ih,by simp,?_⟩;intro a ha b hb;simp at hb;subst hb;intro hab;subst hab;exact this ha
theorem Zk6 {e:En}(h:Vu e=0):e.up.length<=6:=by
 unfold Vu at h;split at h
 . omega
 . omega
theorem Z44 {x:Ud}{kl:Lit}(h:keyOf Tryz.prog 34 (udV x)=some kl):Za2 x/\kl=udK x:=by
 obtain ⟨u,e,h1,h2⟩:=Zs6 h;have:x=u:=by
  cases x;cases u
  simp [udV] at e;obtain ⟨rfl,rfl⟩:=e;rfl
 subst this;exact ⟨h1,h2⟩
theorem Ul (hs:List Eh)(es:List En)(A:Option Addr)(c:Nat)(w:World)(hI:Jg w A hs es)(hc:hs.length<=c) :
 Calls Tryz.prog 22 #[.slice A hs.length c] w λr w'=>r=.returned (Yh (Ym es))/\RowKit.Below w.heap.size w w':=by
 have hlen:=hI.ens.len;obtain ⟨v,hv⟩:∃v,Ym es=v:=⟨_,rfl⟩;rw [hv];have HV:=Ld hv;have HI:=Ld hI;clear hv hI;by_cases h16:16 < hs.length
 . have HE:Hid (v=4):=by show _=_;rw [<-HV.out];unfold Ym;rw [if_pos (by omega)]
   have t16:decide ((16:Int) < (hs.length:Int))=true:=by simp;omega
   clear hlen;go_enter Tryz.func22,Tryz.ntmps22
   go_wp2_with fail
   go_ret
   rw [HE.out];exact ⟨rfl,RowKit.Below.refl _ _⟩
 . have t16:decide ((16:Int) < (hs.length:Int))=false:=by simp;omega
   have HE:Hid (v=if fnz (Uj es) es.length≠0 then fnz (Uj es) es.length else if Zr6 es=true then 7 else 0):=by
    show _=_;rw [<-HV.out];unfold Ym;rw [if_neg (by omega)]
   have HLN:=Ld hlen;have h16':hs.length<=16:=by omega
   clear HV h16 hlen;have hmm:=@run_makeMap Tryz.prog;go_enter Tryz.func22,Tryz.ntmps22
   go_wp2_with fail
   go_loopw [17] (λkk wr=>∃k:Nat,kk=.int .i64 k/\k<=hs.length/\Hid (∀j,j < k->Uj es j=0)/\RowKit.Below w.heap.size w wr) (λkk _=>hs.length - (intOf kk).toNat)
   case atStart=>exact ⟨0,rfl,by omega,by intro j hj;omega,RowKit.Below.refl _ _⟩
   case round=>
    obtain ⟨k,rfl,hk,HK,hbr⟩:=hrel;have hzr:=hbr.size;by_cases hlt:k < hs.length
    . obtain ⟨⟨hu0,ua,un,uc,aa,an,ac⟩,hx⟩:∃x,hs[k]? = some x:=⟨_,gE hlt⟩;obtain ⟨e,he⟩:∃e,es[k]? = some e:=⟨_,gE (by have:=HLN.out;omega)⟩;have hem:=mG he;have HIr:=Ld (HI.out.later hbr);obtain ⟨b1,o1,rfl,hb1,d0,d1,d2,d3⟩:=Zc7 HIr.out.sl hx;have hue:hu0=e.u:=(HIr.out.ens.at_ k _ e hx he).u;subst hue;simp only at d0 d1 d2 d3;have HEA:Hid (Uj es k=if Zw e.u≠0 then Zw e.u else if e.u∈(es.take k).map En.u then 6 else Vu e):=Zo4 he;have HW:=Ld (λW=>Uw e.u W (HI.out.uz e hem));have HOne:=Ld (λW (hW:RowKit.Below wr.heap.size wr W)=>Z04 ⟨e.u,ua,un,uc,aa,an,ac⟩ e W ((HIr.out.later hW).ens.at_ k _ e hx he) (HI.out.pz e hem) (HI.out.az e hem));have HCO:=Ld (λW (hW:RowKit.Below wr.heap.size wr W) (b:Nat) (hcap:Zxh e.u b W)=>by
       have h:=Zl9 e.u (hs.take k) (some ⟨b1,o1,none⟩) c b W hcap (by rw [List.length_take];omega) ((HIr.out.later hW).sl.take k);rw [List.length_take,Nat.min_eq_left (by omega),Z1r HIr.out.ens] at h;exact h)
      have q:∀(W:World),(Instr.slice 42 (.slice (some ⟨b1,o1,none⟩) hs.length c) none (some (.int .i64 (k:Int))) none).run Tryz.prog W=.ok (.slice (some ⟨b1,o1,none⟩) k c) W:=by
       intro W;go_simp
       intro h;omega
      have HX:=Ld hx;clear hx he hem;have hw1:RowKit.Below wr.heap.size wr (wr.alloc (.cells #[.string e.u.ty,.string e.u.id,.slice ua un uc,.slice aa an ac] 109)):=(by (repeat (first | assumption | exact bR | apply bD | apply Za | refine bA ?_ _)));by_cases hw0:Zw e.u=0
      . have te:(Zw e.u != 0)=false:=(by simp [hw0]);have HEP:=Ld hw0;clear hw0;go_wp2_with fail
        refine (HW.out _).mono ?_;rintro r w1 ⟨rfl,hb1'⟩;obtain ⟨hcc1,-⟩:=Xi hb1';have hw2:RowKit.Below wr.heap.size wr w1:=hw1.trans (hb1'.mono (by simp));have ev0:w1.cell? ⟨wr.heap.size,0,none⟩=some (.string e.u.ty):=(by rw [hcc1 _ _ (by simp)];simp [World.cell?_alloc_new]);have ev1:w1.cell? ⟨wr.heap.size,1,none⟩=some (.string e.u.id):=(by rw [hcc1 _ _ (by simp)];simp [World.cell?_alloc_new]);have ev2:w1.cell? ⟨wr.heap.size,2,none⟩=some (.slice ua un uc):=(by rw [hcc1 _ _ (by simp)];simp [World.cell?_alloc_new]);have ev3:w1.cell? ⟨wr.heap.size,3,none⟩=some (.slice aa an ac):=(by rw [hcc1 _ _ (by simp)];simp [World.cell?_alloc_new]);have hz1':wr.heap.size < w1.heap.size:=(by have:=hb1'.size;simp at this;omega);have HCC:=Ld (HCO.out w1 hw2 wr.heap.size ⟨ev0,ev1,hz1'⟩);clear hb1' hcc1 d0 d1 d2 d3;by_cases hm:e.u∈(es.take k).map En.u
        . have hmd:decide (e.u∈(es.take k).map En.u)=true:=(by simpa using hm);rw [hmd] at HCC;have HR:Hid (v=6):=by
           have h1:Uj es k=6:=(by rw [HEA.out,if_neg (by simp [HEP.out]),if_pos hm]);have h2:fnz (Uj es) es.length=6:=(by rw [Zg8 (k:=k) HK.out (by rw [h1];omega) (by have:=HLN.out;omega),h1]);show _=_;rw [HE.out,h2];rfl
          clear hm hmd;go_wp2_with fail
          refine HCC.out.mono ?_;rintro r w2 ⟨rfl,hb2⟩;have hw3:RowKit.Below w.heap.size w w2:=(hbr.trans (hw2.mono hzr)).trans (hb2.mono (by have:=hw2.size;omega));clear hb2;go_wp2_with fail
          go_ret
          rw [HR.out];exact ⟨rfl,hw3⟩
        . have hmd:decide (e.u∈(es.take k).map En.u)=false:=(by simpa using hm);rw [hmd] at HCC;have HEB:Hid (Uj es k=Vu e):=(by show _=_;rw [HEA.out,if_neg (by simp [HEP.out]),if_neg hm]);clear hm hmd;by_cases ho:Vu e=0
          . have tne:(Vu e != 0)=false:=(by simp [ho]);have HK2:Hid (∀j,j < k+1->Uj es j=0):=by
             intro j hj;rcases Nat.lt_or_ge j k with h | h
             . exact HK.out j h
             . obtain rfl:j=k:=(by omega);rw [HEB.out,ho]
            clear ho;go_wp2_with fail
            refine HCC.out.mono ?_;rintro r w2 ⟨rfl,hb2⟩;obtain ⟨hcc2,-⟩:=Xi hb2;have hw3:RowKit.Below wr.heap.size wr w2:=hw2.trans (hb2.mono hw2.size);have ew0:=(hcc2 _ 0 hz1').trans ev0;have ew1:=(hcc2 _ 1 hz1').trans ev1;have ew2:=(hcc2 _ 2 hz1').trans ev2;have ew3:=(hcc2 _ 3 hz1').trans ev3;have HO2:=Ld (HOne.out w2 hw3);clear hb2 hcc2 ev0 ev1 ev2 ev3;go_wp2_with fail
            refine HO2.out.mono ?_;rintro r w3 ⟨rfl,hb3⟩;have hw4:RowKit.Below w.heap.size w w3:=(hbr.trans (hw3.mono hzr)).trans (hb3.mono (by have:=hw3.size;omega));clear hb3 ew0 ew1 ew2 ew3;go_wp2_with fail
            exact ⟨⟨k+1,by go_num,by omega,HK2,hw4⟩,by simp [intOf];omega⟩
          . have tne:(Vu e != 0)=true:=(by simp [ho]);have HR:Hid (v=Vu e):=by
             have h2:fnz (Uj es) es.length=Vu e:=(by rw [Zg8 (k:=k) HK.out (by rw [HEB.out];exact ho) (by have:=HLN.out;omega),HEB.out]);show _=_;rw [HE.out,h2,if_pos ho]
            clear ho;go_wp2_with fail
            refine HCC.out.mono ?_;rintro r w2 ⟨rfl,hb2⟩;obtain ⟨hcc2,-⟩:=Xi hb2;have hw3:RowKit.Below wr.heap.size wr w2:=hw2.trans (hb2.mono hw2.size);have ew0:=(hcc2 _ 0 hz1').trans ev0;have ew1:=(hcc2 _ 1 hz1').trans ev1;have ew2:=(hcc2 _ 2 hz1').trans ev2;have ew3:=(hcc2 _ 3 hz1').trans ev3;have HO2:=Ld (HOne.out w2 hw3);clear hb2 hcc2 ev0 ev1 ev2 ev3;go_wp2_with fail
            refine HO2.out.mono ?_;rintro r w3 ⟨rfl,hb3⟩;have hw4:RowKit.Below w.heap.size w w3:=(hbr.trans (hw3.mono hzr)).trans (hb3.mono (by have:=hw3.size;omega));clear hb3 ew0 ew1 ew2 ew3;go_wp2_with fail
            go_ret
            rw [HR.out];exact ⟨rfl,hw4⟩
      . have te:(Zw e.u != 0)=true:=(by simp [hw0]);have HR:Hid (v=Zw e.u):=by
         have h1:Uj es k=Zw e.u:=(by rw [HEA.out,if_pos hw0]);have h2:fnz (Uj es) es.length=Zw e.u:=(by rw [Zg8 (k:=k) HK.out (by rw [h1];exact hw0) (by have:=HLN.out;omega),h1]);show _=_;rw [HE.out,h2,if_pos hw0]
        clear hw0;go_wp2_with fail
        refine (HW.out _).mono ?_;rintro r w1 ⟨rfl,hb1'⟩;have hw2:RowKit.Below w.heap.size w w1:=(hbr.trans (hw1.mono hzr)).trans (hb1'.mono (by simp;omega));clear hb1';go_wp2_with fail
        go_ret
        rw [HR.out];exact ⟨rfl,hw2⟩
    . have HZ:Hid (∀j,j < es.length->Uj es j=0):=λj hj=>HK.out j (by have:=HLN.out;omega);have HE2:Hid (v=if Zr6 es=true then 7 else 0):=(by show _=_;rw [HE.out,Zax HZ.out];rfl);have HIr:=Ld (HI.out.later hbr);have HND:Hid ((hs.map Eh.u).Nodup):=by
       have:=Zdq es.length HZ.out;rw [List.take_of_length_le (nL _)] at this;show List.Nodup _;rw [Zc4 HIr.out.ens];exact this
      have HUP:Hid (∀e∈es,e.up.length<=6):=λe he=>by
       obtain ⟨i,hi⟩:=List.mem_iff_getElem?.1 he;exact Zk6 (Zbj hi (HZ.out i (List.getElem?_eq_some_iff.1 hi).1)).2.2
      have HSMS:Hid (∀h∈hs,Za2 h.u):=λh hh=>by
       have h1:h.u∈es.map En.u:=(by rw [<-Zc4 HIr.out.ens];exact List.mem_map.2 ⟨h,hh,rfl⟩);obtain ⟨e,he,h2⟩:=List.mem_map.1 h1;rw [<-h2];exact Zak (HI.out.uz e he)
      have HST:=Ld (Zh0 hs A c wr (by omega) HIr.out.sl HSMS.out HND.out);clear HE;go_wp2_with fail
      refine HST.out.mono ?_;rintro r w1 ⟨sb,rfl,hsb,hst,hb1⟩;obtain ⟨D,hown,hok⟩:=hst;have HW1:=Ld hb1;have HOK:=Ld hok;have hsb1:=hown.lt;clear hb1 hok;have hkinv:∀key kl,keyOf Tryz.prog 34 key=some kl->∃x:Ud,key=.agg #[.string x.ty,.string x.id]:=λkey kl hk=>by obtain ⟨u,e,_⟩:=Zs6 hk;exact ⟨u,e⟩
      have hvinv:∀v y,ehR v=some y->∃x:Eh,v=.agg #[.string x.u.ty,.string x.u.id,.slice x.ua x.un x.uc,.slice x.aa x.an x.ac]:=λv y hv=>by obtain ⟨e,he,_⟩:=Zuc hv;exact ⟨e,he⟩
      have HKI:=Ld hkinv;have HVI:=Ld hvinv;clear hkinv hvinv;go_wp2_with (at_range;refine wpList_range_own _ rfl _ 116 rfl 34 109 Qu Tryz.underlying116 ehR sb hs.length D rfl hown ?_;intro w2 hrg2 hg2 hs2)
      go_frame
      have hsz1:=HW1.out.size;have HR0:Hid (∀e∈es,Maps.has D (udK e.u)=true):=λe he=>by
       have h1:e.u∈hs.map Eh.u:=(by rw [Zc4 HIr.out.ens];exact List.mem_map.2 ⟨e,he,rfl⟩);rw [(HOK.out e.u (Zak (HI.out.uz e he))).1];simpa using h1
      have HW2:Hid (RowKit.Below w1.heap.size w1 w2):=⟨hg2.os,hg2.tape,hg2.output,hg2.size,λk hk=>hg2.block k hk (by simp)⟩;have hz2:w2.heap.size=w1.heap.size+1:=hs2;have hlt12:w1.heap.size < w2.heap.size:=(by omega);clear hs2 hg2 hz2;obtain ⟨r,hr⟩:∃r,w1.heap.size=r:=⟨_,rfl⟩;have HRR:=Ld hr;rw [hr] at hrg2 ⊢;clear hr;obtain ⟨wz,rfl⟩:∃wz:World,wz=wr:=⟨_,rfl⟩;go_loopw [10] (λ_ wo=>∃left cnt,wo.ranges Tryz.prog 34 ehR sb r hs.length D left cnt/\Hid (∀e∈es,left (udK e.u)=false->e.u ∉ abv es 100 e.u [])/\Hid (RowKit.Below w1.heap.size w1 wo)) (λ_ wo=>wo.rangeLeft sb r)
      case atStart=>
       exact ⟨_,_,hrg2,(λe he h=>by rw [HR0.out e he] at h;exact absurd h (by simp):∀e∈es,Maps.has D (udK e.u)=false->e.u ∉ abv es 100 e.u []),HW2.out⟩
      case round=>
       obtain ⟨left,cnt,hrg,HL,HB⟩:=hrel;have HRG:=Ld hrg;have hzo:=HB.out.size;clear hrg;have hor:r < wr.heap.size:=HRG.out.lt;go_wp2_with (at_next;refine wpList_next_ranges _ rfl _ rfl 34 Qu ehR (λx:Ud=>.agg #[.string x.ty,.string x.id]) (λx:Eh=>.agg #[.string x.u.ty,.string x.u.id,.slice x.ua x.un x.uc,.slice x.aa x.an x.ac]) HKI.out HVI.out sb r hs.length D left cnt rfl HRG.out ?_ ?_)
       . intro hc0 hl0;have HCY:Hid (Zr6 es=false):=by
          show _=_;unfold Zr6;rw [List.any_eq_false];intro e he;simpa using HL.out e he (hl0 _)
         clear hl0 hc0;go_wp2_with fail
         go_ret
         rw [HE2.out,HCY.out];exact ⟨rfl,hbr.trans ((HW1.out.trans (HB.out.mono hsz1)).mono hzr)⟩
       . intro x ce kl yd yp w3 cnt3 hkey hlk hv hat hrg3 hlt3 hg3 hs3 hen;obtain ⟨hsm,rfl⟩:=Z44 hkey;have hxm:x∈es.map En.u:=by
          have h1:=Maps.has_true_of_atKey hat;rw [(HOK.out x hsm).1] at h1;rw [<-Zc4 HIr.out.ens];simpa using h1
         have hb3:RowKit.Below w1.heap.size w1 w3:=HB.out.grown hg3 hzo (λj hj=>by injection hj with hj;have:=HRR.out;omega);have HXM:=Ld hxm;have HSX:=Ld hsm;have HLK:=Ld hlk;have HB3:=Ld hb3;have HRG3:=Ld hrg3;have HLT:=Ld hlt3;have hsz3:r < w3.heap.size:=hrg3.lt;have hsb3:sb < w3.heap.size:=hrg3.owns.lt;clear hkey hlk hv hat hrg3 hlt3 hg3 hs3 hxm hsm hb3;have HBW:Hid (RowKit.Below w.heap.size w ((w3.alloc (.cells #[.string x.ty,.string x.id] 34)).alloc (.map #[] 0))):=by
          have h3:RowKit.Below w.heap.size w w3:=hbr.trans ((HW1.out.trans (HB3.out.mono hsz1)).mono hzr);have:=h3.size;show RowKit.Below _ _ _;(repeat (first | assumption | exact bR | apply bD | apply Za | refine bA ?_ _))
         have HM0:Hid (Kg ((w3.alloc (.cells #[.string x.ty,.string x.id] 34)).alloc (.map #[] 0)) (w3.heap.size+1) []):=by
          have:=Zo7 (w3.alloc (.cells #[.string x.ty,.string x.id] 34));rwa [World.size_alloc] at this
         have HUM:Hid (unm es []<=96):=Zle (by have:=HLN.out;omega) HUP.out [];have hzw:w.heap.size<=wz.heap.size:=hzr;have HC:=Ld (Zgb es (λp hp=>by obtain ⟨e,he,h⟩:=List.mem_flatMap.1 hp;exact Zak (HI.out.pz e he p h)) 100 hs x [] _ w.heap.size sb (w3.heap.size+1)
          ⟨⟨D,(HRG3.out.owns.alloc _).alloc _,HOK.out⟩,HM0.out,HI.out.ens.below HBW.out,by omega,by have:=HBW.out.size;simp at this;omega,by omega⟩ HSX.out (by have:=HUM.out;omega) (by have:=HUM.out;simp;omega))
         have g0:((w3.alloc (.cells #[.string x.ty,.string x.id] 34)).alloc (.map #[] 0)).cell? ⟨w3.heap.size,0,none⟩=some (.string x.ty):=by
          rw [World.cell?_alloc_lt _ _ ⟨w3.heap.size,0,none⟩ (by simp)];simp [World.cell?_alloc_new]
         have g1:((w3.alloc (.cells #[.string x.ty,.string x.id] 34)).alloc (.map #[] 0)).cell? ⟨w3.heap.size,1,none⟩=some (.string x.id):=by
          rw [World.cell?_alloc_lt _ _ ⟨w3.heap.size,1,none⟩ (by simp)];simp [World.cell?_alloc_new]
         have HRG4:Hid (((w3.alloc (.cells #[.string x.ty,.string x.id] 34)).alloc (.map #[] 0)).ranges Tryz.prog 34 ehR sb r hs.length D (λz=>left z && !z.sameKey (udK x)) cnt3):=(HRG3.out.alloc _).alloc _;have HLE:Hid (wr.rangeLeft sb r=cnt):=HRG.out.left_eq;go_wp2_with fail
         refine HC.out.mono ?_;rintro rr w4 ⟨rfl,hM4,hg4⟩;have k0:w4.cell? ⟨w3.heap.size,0,none⟩=some (.string x.ty):=by
          rw [World.cell?_of_block (a:=⟨w3.heap.size,0,none⟩) (hg4.block w3.heap.size (by simp;omega) (by intro e;injection e with e;omega))];exact g0
         have k1:w4.cell? ⟨w3.heap.size,1,none⟩=some (.string x.id):=by
          rw [World.cell?_of_block (a:=⟨w3.heap.size,1,none⟩) (hg4.block w3.heap.size (by simp;omega) (by intro e;injection e with e;omega))];exact g1
         have hlk4:=Zi9 hM4 HSX.out;have HRG5:Hid (w4.ranges Tryz.prog 34 ehR sb r hs.length D (λz=>left z && !z.sameKey (udK x)) cnt3):=HRG4.out.kept hg4 (by intro e;injection e with e;omega) (by intro e;injection e with e;omega);have HB4:Hid (RowKit.Below w1.heap.size w1 w4):=by
          have h3:=HB3.out;have h5:=h3.size;exact RowKit.Below.grown (w:=(w3.alloc (.cells #[.string x.ty,.string x.id] 34)).alloc (.map #[] 0)) (by (repeat (first | assumption | exact bR | apply bD | apply Za | refine bA ?_ _))) hg4 (by simp;omega) (λj hj=>by injection hj with hj;omega)
         clear hM4 hg4 g0 g1 HC;by_cases hm:x∈abv es 100 x []
         . rw [if_pos hm] at hlk4;have HCY:Hid (Zr6 es=true):=by
            obtain ⟨e,he,h2⟩:=List.mem_map.1 HXM.out;subst h2;exact List.any_eq_true.2 ⟨e,he,by simpa using hm⟩
           clear hm;go_wp2_with fail
           go_ret
           rw [HE2.out,HCY.out];exact ⟨rfl,hbr.trans ((HW1.out.trans (HB4.out.mono hsz1)).mono hzr)⟩
         . rw [if_neg hm] at hlk4;have HL2:Hid (∀e∈es,(left (udK e.u) && !(udK e.u).sameKey (udK x))=false->e.u ∉ abv es 100 e.u []):=by
            intro e he h;cases hl:left (udK e.u) with
            | false=>exact HL.out e he hl
            | true=>
             rw [hl] at h;have h2:(udK e.u).sameKey (udK x)=true:=(by simpa using h);have h3:=Zm3 (Zak (HI.out.uz e he)) HSX.out (WideAt.sameKey_eq h2);rw [h3];exact hm
           clear hm;go_wp2_with fail
           exact ⟨⟨_,_,HRG5.out,HL2,HB4⟩,by rw [HRG5.out.left_eq,HLE.out];exact HLT.out⟩
end Go.Proofs.YtpheiojmcafolaaGreatDoor
namespace Go.Proofs.YtpheiojmcafolaaGreatDoor
open Go.RowKit Go.Sort
def Xu (g:Nat->Prop)(w:World)(B:Nat)(A:Option Addr)(xs:List Nd):Prop:=
 xs≠[]->∃b o,A=some ⟨b,o,none⟩/\b < B/\¬g b/\∀i x,xs[i]? = some x->Jj w b (o+i*4) x
theorem Xu.sl {g:Nat->Prop}{w:World}{B:Nat}{A:Option Addr}{xs:List Nd}(h:Xu g w B A xs):Ye w B A xs:=λhne=>by
 obtain ⟨b,o,e,h1,_,h3⟩:=h hne;exact ⟨b,o,e,h1,h3⟩
theorem Ye.off {g:Nat->Prop}{w:World}{B B':Nat}{A:Option Addr}{xs:List Nd}(h:Ye w B A xs)(hB:∀b,g b->B<=b)(hB':B<=B'):Xu g w B' A xs:=λhne=>by
 obtain ⟨b,o,e,h1,h3⟩:=h hne;exact ⟨b,o,e,by omega,λhg=>by have:=hB b hg;omega,h3⟩
theorem Xu.keep {g:Nat->Prop}{w w':World}{B B':Nat}{A:Option Addr}{xs:List Nd}(h:Xu g w B A xs)(hk:∀p:Addr,p.block < B->¬g p.block->w'.cell? p=w.cell? p)(hB:B<=B'):Xu g w' B' A xs:=λhne=>by
 obtain ⟨b,o,e,h1,h2,h3⟩:=h hne;exact ⟨b,o,e,by omega,h2,λi x hx=>by
  obtain ⟨q0,q1,q2,q3⟩:=h3 i x hx;exact ⟨(hk _ h1 h2).trans q0,(hk _ h1 h2).trans q1,(hk _ h1 h2).trans q2,(hk _ h1 h2).trans q3⟩⟩
theorem Ko:(Tryz.prog.info? 37).map (λi=>(i.zero,i.size,i.bytes))=some (some (.agg #[.int .i64 0,.int .i64 0,.string ⟨#[]⟩,.string ⟨#[]⟩]),4,48):=by kernel_rfl
structure NsM where
 A:Option Addr
 c:Nat
 e:List Nd
def NsM.cells (x:NsM):List Value:=[.slice x.A x.e.length x.c]
theorem Zbv:Kh NsM.cells 1:=⟨λ_=>rfl,by omega,λx u hu=>by
 simp only [NsM.cells,List.mem_cons,List.not_mem_nil,or_false] at hu;subst hu;rfl⟩
abbrev Z5g:=SlG NsM.cells 1
structure Yq (w:World)(B:Nat)(x:NsM):Prop where
 sl:Ye w B x.A x.e
 le:x.e.length<=x.c
 max:x.c<=9223372036854775807
theorem Yq.later {w w':World}{x:NsM}(h:Yq w w.heap.size x)(hb:Below w.heap.size w w'):Yq w' w'.heap.size x:=⟨(h.sl.below hb).more hb.size,h.le,h.max⟩
structure X8 (w:World)(A:Option Addr)(ps:List NsM):Prop where
 sl:Z5g w w.heap.size A ps
 good:∀x∈ps,Yq w w.heap.size x
theorem X8.later {w w':World}{A:Option Addr}{ps:List NsM}(h:X8 w A ps)(hb:Below w.heap.size w w'):X8 w' A ps:=
 ⟨h.sl.later hb,λx hx=>(h.good x hx).later hb⟩
theorem V4 {w:World}{B:Nat}{A:Option Addr}{xs:List NsM}(h:Z5g w B A xs){i:Nat}{x:NsM}(hx:xs[i]? = some x):∃b o,A=some ⟨b,o,none⟩/\b < B/\w.cell? ⟨b,o+i,none⟩=some (.slice x.A x.e.length x.c):=by
 obtain ⟨b,o,h1,h2,h3⟩:=h.at_ (List.getElem?_eq_some_iff.1 hx).1;have:=h3 i x hx 0 _ rfl;rw [Nat.mul_one,Nat.add_zero] at this;exact ⟨b,o,h1,h2,this⟩
def Xl (ps:List NsM):List Nd:=ps.flatMap NsM.e
theorem Zcs {ps:List NsM}{k:Nat}{p:NsM}(h:ps[k]? = some p):Xl (ps.take (k+1))=Xl (ps.take k)++p.e:=by
 unfold Xl;rw [List.take_add_one,h,List.flatMap_append];simp
theorem Zbo {ps:List NsM}(k:Nat):(Xl (ps.take k)).length<=(Xl ps).length:=by
 conv=>rhs;rw [<-List.take_append_drop k ps]
 unfold Xl;rw [List.flatMap_append,List.length_append];omega
def J6 (w:World)(r:Ending)(w':World)(xs:List Nd):Prop:=
 ∃A c,r=.returned (.slice A xs.length c)/\xs.length<=c/\c<=9223372036854775807/\Ye w' w'.heap.size A xs/\Below w.heap.size w w'
end Go.Proofs.YtpheiojmcafolaaGreatDoor
namespace Go.Proofs.YtpheiojmcafolaaGreatDoor
open Go.RowKit
theorem Zsg (x y:Nd)(w:World):(Op.equalIn 10000 37 (.agg #[.int .i64 x.op,.int .i64 x.n,.string x.s,.string x.t]) (.agg #[.int .i64 y.op,.int .i64 y.n,.string y.s,.string y.t])).run Tryz.prog w=.ok (decide (x=y)) w:=by
 have u3:=Tryz.underlying9;have a3:=Tryz.isAgg9;have z3:=Tryz.sizeOf9;have u4:=Tryz.underlying3;have a4:=Tryz.isAgg3;have z4:=Tryz.sizeOf3;have hS:Tryz.prog.underlying 37=some (.struct (Tryz.prog.fieldsOf 37)):=by kernel_rfl
 have hp:Tryz.prog.stoodInHeld 37=false:=by kernel_rfl
 rw [show (10000:Nat)=9999+1 from rfl,run_equalIn_agg w 9999 37 _ _ hS hp];simp only [Program.fieldsOf,Tryz.underlying37];go_simp
 obtain ⟨a,b,s,l⟩:=x;obtain ⟨a',b',s',l'⟩:=y;by_cases h0:a=a' <;> by_cases h3:b=b' <;> by_cases h1:s=s' <;> by_cases h2:l=l' <;> simp [Zip,h0,h1,h2,h3]
theorem Zz7 (x y:Nd)(w:World):(binOp .neq 37 (.agg #[.int .i64 x.op,.int .i64 x.n,.string x.s,.string x.t]) (.agg #[.int .i64 y.op,.int .i64 y.n,.string y.s,.string y.t])).run Tryz.prog w=.ok (.bool (!decide (x=y))) w:=by
 rw [run_neq_struct,Zsg];rfl
theorem Z2g:(Tryz.prog.info? 53).map (λi=>(i.zero,i.size,i.bytes))=some (some (.agg #[.bool false,.slice none 0 0]),2,32):=by kernel_rfl
set_option maxRecDepth 100000 in
theorem Zgh (e:List Nd)(A:Option Addr)(c:Nat)(w:World)(hsl:Ye w w.heap.size A e)(hl:e.length<=200) :
 Calls Tryz.prog 77 #[.slice A e.length c] w λr w'=>∃A' c',r=.returned (.slice A' e.length c')/\e.length<=c'/\c'<=9223372036854775807/\(∀g:Nat->Prop,(∀b,g b->b < w.heap.size)->Xu g w' w'.heap.size A' e)/\Below w.heap.size w w':=by
 have q:∀(w:World) (a:Option Addr) (n c n' c':Nat),(binOp .eql 22 (.slice a n c) (.slice none n' c')).run Tryz.prog w=.ok (.bool a.isNone) w:=λw a n c n' c'=>Lib.run_eql_slice_nil w _ _ a n c n' c' Tryz.underlying22;obtain ⟨i0,hi,hz0,hz1,hz2⟩:=info_parts Ko;cases A with
 | none=>
  have he:e = []:=by
   cases e with
   | nil=>rfl
   | cons x r=>obtain ⟨b,o,h,_⟩:=hsl (List.cons_ne_nil _ _);cases h
  subst he;go_enter Tryz.func77,Tryz.ntmps77
  go_wp2_with fail
  go_ret
  exact ⟨none,0,rfl,nL _,by omega,λg _ h=>absurd rfl h,Below.refl _ _⟩
 | some a=>
  have hcells:∀j u,(flat e)[j]? = some u->(w.alloc (.cells #[] 37)).cell? (a.add j)=some u:=by
   intro j u hu;have hne:e≠[]:=(by rintro rfl;simp [flat] at hu);obtain ⟨b,o,h1,h2,_⟩:=hsl hne;injection h1 with h1
   subst h1;exact Ye.flat_alloc hsl h2 _ j u hu
  have HC:=Ld hcells;clear hcells hsl;go_enter Tryz.func77,Tryz.ntmps77
  go_wp2_with (at_builtin;refine wpList_append_own _ rfl (.tmp 5) (.tmp 6) 22 rfl w.heap.size 37 i0 _ 4 48 Tryz.underlying22 hi hz0 hz1 hz2 rfl (by omega) _ _ _ rfl (World.ownsRow_made w #[] 0 (nL _) (Nat.zero_le _) (by simp)) a e.length c (flat e) rfl (Xw e) HC.out (Yp e) (by unfold maxLen;omega) (by omega) (by simp) ?_)
  intro v' w1 hown hgrow hnil;go_wp2_with fail
  go_ret
  have hown:w1.ownsRow w.heap.size 37 4 v' e.length (flat e):=by simpa using hown
  have hbel:Below w.heap.size w w1:=((Below.refl _ w).alloc (nL _) _).grown hgrow (by simp) (by intro k hk;simp [Value.ownBlock] at hk;omega);rcases hown.2 with ⟨hv,h0⟩ | ⟨g,cap,cur,hv,hb,hg,hnc,hcm,hcs,htk⟩
  . have:e = []:=List.eq_nil_of_length_eq_zero h0;subst this;exact ⟨none,0,by rw [hv];rfl,nL _,by omega,λg _ h=>absurd rfl h,hbel⟩
  . unfold maxLen at hcm;refine ⟨some ⟨g,0,none⟩,cap,by rw [hv];rfl,hnc,hcm,λg' hg'=>?_,hbel⟩;have hs:Ye w1 w1.heap.size (some ⟨g,0,none⟩) e:=Ye.of_flat (Array.getElem?_eq_some_iff.1 hg).1 λj u hu=>by
     have hj:j < e.length*4:=(by have:=(List.getElem?_eq_some_iff.1 hu).1;rw [Xw] at this;omega);subst hv;exact (hown.cellAt j hj).trans hu
    intro hne;obtain ⟨b,o,h1,h2,h3⟩:=hs hne;injection h1 with h1
    injection h1 with h4 h5
    subst h4 h5;exact ⟨g,0,rfl,h2,λhg=>by have:=hg' g hg;omega,h3⟩
end Go.Proofs.YtpheiojmcafolaaGreatDoor
namespace Go.Proofs.YtpheiojmcafolaaGreatDoor
open Go.RowKit Go.Sort
structure Vd (w:World)(q:Option Nat)(x:NsM):Prop where
 off:Xu (λb=>q=some b) w w.heap.size x.A x.e
 le:x.e.length<=x.c
 max:x.c<=9223372036854775807
theorem Vd.good {w:World}{q:Option Nat}{x:NsM}(h:Vd w q x):Yq w w.heap.size x:=⟨h.off.sl,h.le,h.max⟩
theorem Vd.grown {w w':World}{q q':Option Nat}{x:NsM}(h:Vd w q x)(hg:w.grownBy w' q)(hq:q'=q\/q'=some w.heap.size):Vd w' q' x:=
 ⟨λhne=>by
  obtain ⟨b,o,e,h1,h2,h3⟩:=h.off hne;have h2':¬q=some b:=h2;have hk:∀i,w'.cell? ⟨b,i,none⟩=w.cell? ⟨b,i,none⟩:=λi=>World.cell?_of_block (w:=w) (a:=⟨b,i,none⟩) (hg.block b h1 (λe=>h2' e.symm));refine ⟨b,o,e,Nat.lt_of_lt_of_le h1 hg.size,?_,λi y hy=>?_⟩
  . show ¬q'=some b;rcases hq with rfl | rfl
    . exact h2'
    . intro hh;injection hh with hh;omega
  . obtain ⟨q0,q1,q2,q3⟩:=h3 i y hy;exact ⟨(hk _).trans q0,(hk _).trans q1,(hk _).trans q2,(hk _).trans q3⟩,h.le,h.max⟩
theorem Vd.later {w w':World}{q:Option Nat}{x:NsM}(h:Vd w q x)(hb:RowKit.Below w.heap.size w w'):Vd w' q x:=
 ⟨h.off.keep (λ_ hp _=>hb.cell hp) hb.size,h.le,h.max⟩
theorem Yq.away {w:World}{B:Nat}{q:Option Nat}{x:NsM}(h:Yq w B x)(hB:B<=w.heap.size)(hq:∀b,q=some b->B<=b):Vd w q x:=
 ⟨h.sl.off hq hB,h.le,h.max⟩
theorem Yq.fresh {w:World}{B:Nat}{q:Option Nat}{x:NsM}(h:Yq w w.heap.size x)(hn:∀b o,x.A=some ⟨b,o,none⟩->B<=b)(hq:∀b,q=some b->b < B):Vd w q x:=
 ⟨λhne=>by
  obtain ⟨b,o,e,h1,h3⟩:=h.sl hne;exact ⟨b,o,e,h1,λhh=>by have:=hq b hh;have:=hn b o e;omega,h3⟩,h.le,h.max⟩
theorem Kr {w:World}{base:Nat}{e:TypeId}{v:Value}{n:Nat}{xs:List Nd}(h:w.ownsRow base e 4 v n (flat xs)) :
 ∃A c,v=.slice A n c/\n<=c/\c<=9223372036854775807/\Ye w w.heap.size A xs/\∀b o,A=some ⟨b,o,none⟩->base<=b:=by
 obtain ⟨A,c,hv,hc,hm,hs⟩:=Zpq (xs:=xs) (ys:=[]) (by rw [show flat ([]:List Nd) = [] from rfl,List.append_nil];exact h);rw [List.append_nil] at hs;refine ⟨A,c,hv,hc,hm,hs,λb o hA=>?_⟩;subst hA;rcases h.2 with ⟨h1,_⟩ | ⟨g,cap,cur,h1,hb,_⟩
 . rw [hv] at h1;cases h1
 . rw [hv] at h1;injection h1 with h1;injection h1 with h1;injection h1 with h1;omega
def X3 (w:World)(r:Ending)(w':World)(xs:List Nd):Prop:=
 ∃A c,r=.returned (.slice A xs.length c)/\xs.length<=c/\c<=9223372036854775807/\Ye w' w'.heap.size A xs/\RowKit.Below w.heap.size w w'/\∀b o,A=some ⟨b,o,none⟩->w.heap.size<=b
theorem Zfd:(Tryz.prog.info? 22).map (λi=>(i.zero,i.size,i.bytes))=some (some (.slice none 0 0),1,24):=by kernel_rfl
theorem Yf {w:World}{base:Nat}{e:TypeId}{k:Nat}{v:Value}{n:Nat}{xs:List Value}(h:w.ownsRow base e k v n xs){b:Nat}(hb:v.ownBlock=some b):base<=b/\b < w.heap.size:=by
 rcases h.2 with ⟨h1,_⟩ | ⟨g,cap,cur,h1,hbg,hg,_⟩
 . rw [h1] at hb;cases hb
 . rw [h1] at hb;injection hb with hb
   have h2:g=b:=hb;subst h2;exact ⟨hbg,(Array.getElem?_eq_some_iff.1 hg).1⟩
theorem Zmy {wr wa w6:World}{v v':Value}{ps:List NsM}{x:NsM}(ha:RowKit.Below wr.heap.size wr wa)(hN:∀y∈ps,Vd wr v.ownBlock y)(hx:Vd wa v.ownBlock x)(hg:wa.grownBy w6 v.ownBlock)
 (hloc:v'.ownBlock=v.ownBlock\/v'.ownBlock=some wa.heap.size):∀y∈ps ++ [x],Vd w6 v'.ownBlock y:=by
 intro y hy;rcases List.mem_append.1 hy with hy | hy
 . exact ((hN y hy).later ha).grown hg hloc
 . simp at hy;subst hy;exact hx.grown hg hloc
theorem Q1 (ps:List NsM)(x:NsM):Zr NsM.cells (ps ++ [x])=Zr NsM.cells ps ++ [.slice x.A x.e.length x.c]:=by rw [Y6,J9];rfl
end Go.Proofs.YtpheiojmcafolaaGreatDoor
namespace Go.Proofs.YtpheiojmcafolaaGreatDoor
open Go.RowKit
def Mq (vals:Bool)(xs:List Nd):Prop:=(vals=false/\∃b,Ex (.one b) xs)\/(vals=true/\(Vx xs\/Fx xs))
theorem Z0b {p:List Nd}(h:Fx p):Ex (.one true) p:=by
 obtain ⟨f,v,rfl,a,b,c⟩:=h;exact Zbm a b (Vf c)
theorem Mq.ex {vals:Bool}{xs:List Nd}(h:Mq vals xs):∃b,Ex (.one b) xs:=by
 rcases h with ⟨_,h⟩ | ⟨_,h | h⟩
 . exact h
 . exact ⟨_,Vf h⟩
 . exact ⟨_,Z0b h⟩
structure Cut (vals:Bool)(x:Nd)(ps:List (List Nd)):Prop where
 mq:∀p∈ps,Mq vals p
 set:vals=true->x.op=5->∀p∈ps,Vx p
theorem Mq.cut {vals:Bool}{xs:List Nd}(h:Mq vals xs):∃x ps,xs=x :: ps.flatten/\Cut vals x ps:=by
 rcases h with ⟨rfl,b,h⟩ | ⟨rfl,h | h⟩
 . cases h with
   | one x body _ hs h7 hbd=>
    obtain ⟨ps,hc,rfl,hK⟩:=J8 hbd;exact ⟨x,ps,rfl,λp hp=>.inl ⟨rfl,_,Jq hK p hp⟩,by simp⟩
 . cases h with
   | leaf n hs h5 h6 h7=>exact ⟨n,[],by simp,by simp,by simp⟩
   | set n ps hs h5 hn hv hc=>exact ⟨n,ps,rfl,λp hp=>.inr ⟨rfl,.inl (hv p hp)⟩,λ_ _=>hv⟩
   | rcd n ps hs h6 hn h1 h2 h3 hr=>
    refine ⟨n,ps,rfl,λp hp=>.inr ⟨rfl,.inr ?_⟩,λ_ h5=>by omega⟩;obtain ⟨f,v,rfl⟩:=h1 p hp;exact ⟨f,v,rfl,(h2 f v hp).1,(h2 f v hp).2,h3 f v hp⟩
 . obtain ⟨f,v,rfl,h7,hs,hv⟩:=h;refine ⟨f,[v],by simp,?_,λ_ h5=>by omega⟩;intro p hp;simp at hp;subst hp;exact .inr ⟨rfl,.inl hv⟩
theorem Mq.mov {m:Mv}(hm:Zq m=0){vals:Bool}{xs:List Nd}(h:Mq vals xs)(hl:xs.length<=200){k:Nat}(hk:xs.length<=k){ys:List Nd}(hy:Zt m vals k xs=some ys):(∃b,Ex (.one b) ys)/\ys.length<=xs.length/\(vals=true->Vx xs->Vx ys):=by
 rcases h with ⟨rfl,b,h⟩ | ⟨rfl,h | h⟩
 . rcases Zz5 hm xs.length xs b (nL _) h k hk with h' | ⟨zs,h1,h2,h3⟩
   . rw [h'] at hy;cases hy
   . rw [h1] at hy;injection hy with hy;subst hy
     exact ⟨⟨b,h2⟩,h3,by simp⟩
 . rcases Zr7 hm h hl k hk with h' | ⟨zs,h1,h2,h3⟩
   . rw [h'] at hy;cases hy
   . rw [h1] at hy;injection hy with hy;subst hy
     exact ⟨⟨_,Vf h2⟩,h3,λ_ _=>h2⟩
 . obtain ⟨f,v,rfl,h7,hs,hv⟩:=h;rw [List.length_cons] at hl hk;match k,hk with
   | k+1,hk=>
    rw [Zas m true k (Vf hv) h7] at hy;rcases Zr7 hm hv (by omega) k (by omega) with h' | ⟨zs,h1,h2,h3⟩
    . rw [h'] at hy;cases hy
    . rw [h1] at hy;injection hy with hy
      subst hy;refine ⟨⟨_,Z0b ⟨ren m f,zs,rfl,by rw [(V9 m f).1];exact h7,Vw hm hs,h2⟩⟩,by simpa using h3,λ_ hx=>?_⟩;obtain ⟨x,r,e,_,hn7⟩:=hx.ne;injection e with e1 e2
      subst e1;exact absurd h7 hn7
theorem Zzf {t:Zgd}{xs:List Nd}(h:Ex t xs):(match t with | .one _=>0 | .more c _ _=>c)<=xs.length:=by
 induction h with
 | one n body fld hs h7 hb ih=>exact Nat.zero_le _
 | nil r l=>exact nL _
 | cons c r l m xs ys hl hx hy ih1 ih2=>
  simp only at ih2 ⊢;simp;omega
theorem Z4z {t:Zgd}{xs:List Nd}(h:Ex t xs):∀x∈xs,0<=Zl x/\Zl x<=xs.length:=by
 induction h with
 | one n body fld hs h7 hb ih=>
  intro x hx;rcases List.mem_cons.1 hx with rfl | hx
  . have h1:=Jt x hs;have h2:=Zzf hb;simp only at h2;simp only [List.length_cons];omega
  . have:=ih x hx;simp only [List.length_cons];omega
 | nil r l=>simp
 | cons c r l m xs ys hl hx hy ih1 ih2=>
  intro x hx';rcases List.mem_append.1 hx' with h | h
  . have:=ih1 x h;rw [List.length_append];omega
  . have:=ih2 x h;rw [List.length_append];omega
theorem J0 {ps:List (List Nd)}{j:Nat}{p:List Nd}(h:ps[j]? = some p):ps.flatten=(ps.take j).flatten++(p++(ps.drop (j+1)).flatten):=by
 have hj:=(List.getElem?_eq_some_iff.1 h).1;have h2:ps.drop j=p :: ps.drop (j+1):=by
  rw [List.drop_eq_getElem_cons hj];rw [gE hj] at h;injection h with h
  rw [h]
 conv=>lhs;rw [<-List.take_append_drop j ps,h2]
 simp
theorem Vp {ps:List (List Nd)}{j:Nat}{p:List Nd}(h:ps[j]? = some p):(ps.take (j+1)).flatten.length=(ps.take j).flatten.length+p.length:=by
 rw [List.take_add_one,h];simp
theorem Kv (ps:List (List Nd))(j:Nat):(ps.take j).flatten.length<=ps.flatten.length:=by
 conv=>rhs;rw [<-List.take_append_drop j ps,List.flatten_append,List.length_append]
 omega
theorem Zc1 {x:Nd}{ps:List (List Nd)}{j:Nat}{p:List Nd}(h:ps[j]? = some p):piece (x :: ps.flatten) (1+(ps.take j).flatten.length) (1+(ps.take j).flatten.length+p.length)=p:=by
 have:=Zf5 (x :: (ps.take j).flatten) p (ps.drop (j+1)).flatten;rw [J0 h,show x :: ((ps.take j).flatten++(p++(ps.drop (j+1)).flatten))=x :: (ps.take j).flatten++p++(ps.drop (j+1)).flatten from by simp];rw [List.length_cons,show (ps.take j).flatten.length+1=1+(ps.take j).flatten.length from by omega] at this;exact this
theorem Zi6 {x:Nd}{ps:List (List Nd)}{j:Nat}{p:List Nd}(h:ps[j]? = some p)(hp:∃b,Ex (.one b) p):skP ((x :: ps.flatten).drop (1+(ps.take j).flatten.length)) 1 (1+(ps.take j).flatten.length)=some (1+(ps.take j).flatten.length+p.length):=by
 obtain ⟨b,hb⟩:=hp;have:=Z0h hb (ps.drop (j+1)).flatten (1+(ps.take j).flatten.length);rw [J0 h,show x :: ((ps.take j).flatten++(p++(ps.drop (j+1)).flatten))=(x :: (ps.take j).flatten)++(p++(ps.drop (j+1)).flatten) from by simp];rw [show 1+(ps.take j).flatten.length=(x :: (ps.take j).flatten).length from by rw [List.length_cons];omega,List.drop_left];rw [show 1+(ps.take j).flatten.length=(x :: (ps.take j).flatten).length from by rw [List.length_cons];omega] at this;exact this
theorem Kw {α β:Type}(f:α->Option β):∀(ps:List α) (qs:List β) (j:Nat) (p:α) (q:β),Zy ((ps.take j).map f)=some qs->ps[j]? = some p->f p=some q->Zy ((ps.take (j+1)).map f)=some (qs ++ [q])
 | [],qs,j,p,q,_,hp,_=>by simp at hp
 | y :: ps,qs,0,p,q,h,hp,hq=>by
  simp at hp;subst hp;have h':some ([]:List β)=some qs:=h;injection h' with h'
  subst h';simp [Zy,hq]
 | y :: ps,qs,j+1,p,q,h,hp,hq=>by
  rw [List.take_succ_cons,List.map_cons] at h ⊢;cases hy:f y with
  | none=>rw [hy] at h;cases h
  | some z=>
   rw [hy,Zy] at h;rw [Zy];cases hr:Zy ((ps.take j).map f) with
   | none=>rw [hr] at h;cases h
   | some r=>
    rw [hr] at h;injection h with h
    subst h;rw [Kw f ps r j p q hr (by simpa using hp) hq];rfl
theorem Kx {α β:Type}(f:α->Option β):∀(ps:List α) (p:α),p∈ps->f p=none->Zy (ps.map f)=none
 | y :: ps,p,hp,hn=>by
  rw [List.map_cons];cases hy:f y with
  | none=>rfl
  | some z=>
   rw [Zy];rcases List.mem_cons.1 hp with rfl | hp
   . rw [hn] at hy;cases hy
   . rw [Kx f ps p hp hn]
theorem Uv {ms:List NsM}{qs:List (List Nd)}(h:ms.map NsM.e=qs):Xl ms=qs.flatten:=by rw [<-h];simp [Xl,List.flatMap]
end Go.Proofs.YtpheiojmcafolaaGreatDoor
namespace Go.Proofs.YtpheiojmcafolaaGreatDoor
def Kt (es:List En)(q:Rq)(x:Nd)(ps:List (List Nd))(f:List Nd->Rs (List Nd)):Rs (List Nd):=
 if x.op=1\/x.op=2\/x.op=3\/x.op=4 then .ok [x]
 else if x.op=8 then Jf q x.s.toList
 else match x.op==5,x.op==6,ps with
  | true,_,ps=>(Uo (ps.map f)).bind Qc
  | _,true,ps=>(Uo (ps.map λp=>f p.tail)).bind λvs=>Ky ((ps.map sH).zip vs)
  | _,_,[a]=>(f a).bind λv=>Yc es x v
  | _,_,[a,b]=>if x.op=11\/x.op=12 then Xm x.op (f a) (f b) else (f a).bind λu=>(f b).bind λv=>Yn es x.op u v
  | _,_,[c,a,b]=>Vm (f c) (f a) (f b)
  | _,_,_=>.bad 0
theorem Zyl (es:List En)(q:Rq)(k:Nat)(x:Nd)(body:List Nd):evE es q (k+1) (x :: body)=Kt es q x (Va body.length body) (evE es q k):=rfl
theorem Ze4 (es:List En)(q:Rq)(k:Nat)(x:Nd){ps:List (List Nd)}(h:∀p∈ps,∃b,Ex (.one b) p):evE es q (k+1) (x :: ps.flatten)=Kt es q x ps (evE es q k):=by
 rw [Zyl,Xr ps h _ (nL _)]
theorem Zgj (es:List En)(q:Rq)(x:Nd)(ps:List (List Nd)){f g:List Nd->Rs (List Nd)}(h:¬x.op=6->∀p∈ps,f p=g p)(h6:x.op=6->∀p∈ps,f p.tail=g p.tail):Kt es q x ps f=Kt es q x ps g:=by
 unfold Kt;by_cases e6:x.op=6
 . have e5:(x.op==5)=false:=by simp [e6]
   have e6':(x.op==6)=true:=by simp [e6]
   rw [e5,e6',if_neg (by omega),if_neg (by omega),if_neg (by omega),if_neg (by omega)];simp only;rw [List.map_congr_left λp hp=>h6 e6 p hp]
 . have h':=h e6;have e6':(x.op==6)=false:=by simp [e6]
   rw [e6'];split
   . rfl
   . split
     . rfl
     . cases e5:(x.op==5) with
       | true=>simp only;rw [List.map_congr_left h']
       | false=>
        match ps,h' with
        | [],_=>rfl
        | [a],h'=>simp only;rw [h' a (by simp)]
        | [a,b],h'=>simp only;rw [h' a (by simp),h' b (by simp)]
        | [c,a,b],h'=>simp only;rw [h' c (by simp),h' a (by simp),h' b (by simp)]
        | _ :: _ :: _ :: _ :: _,_=>rfl
theorem Zh1 {b:Bool}{xs:List Nd}(h:Ex (.one b) xs):∃(n:Nd) (ps:List (List Nd)),xs=n :: ps.flatten/\(n.op==7)=b/\Zx n=true/\ps.length=(Zl n).toNat/\∀p∈ps,Ex (.one (n.op==6)) p:=by
 cases h with
 | one n body _ hs h7 hb=>
  obtain ⟨ps,h1,h2,h3⟩:=J8 hb;exact ⟨n,ps,by rw [h2],h7,hs,h1,Jq h3⟩
theorem Uc {ps:List (List Nd)}{p:List Nd}(h:p∈ps):p.length<=ps.flatten.length:=by
 obtain ⟨a,b,rfl⟩:=List.append_of_mem h;simp;omega
theorem Zap {p:List Nd}(h:Ex (.one true) p):Ex (.one false) p.tail/\p.tail.length < p.length:=by
 cases h with
 | one f body _ hs h7 hb=>
  have h7':f.op=7:=by simpa using h7
  have hp:Zl f=1:=by simp [Zl,h7']
  rw [hp,show (f.op==6)=false from by simp [h7']] at hb;obtain ⟨ps,h1,h2,h3⟩:=J8 hb;match ps,h1,h3 with
  | [v],_,h3=>exact ⟨by rw [List.tail_cons,h2];simpa using h3.1,by simp⟩
theorem Zek (es:List En)(q:Rq):∀(N:Nat) (xs:List Nd),xs.length<=N->Ex (.one false) xs->∀k j,xs.length<=k->xs.length<=j->evE es q k xs=evE es q j xs
 | 0,xs,hN,h,_,_,_,_=>by
  obtain ⟨x,y,e,_⟩:=Jb h;rw [e] at hN;simp at hN
 | N+1,xs,hN,h,k,j,hk,hj=>by
  obtain ⟨n,ps,rfl,h7,hs,hc,hex⟩:=Zh1 h;rw [List.length_cons] at hN hk hj;obtain ⟨k,rfl⟩:∃k',k=k'+1:=⟨k - 1,by omega⟩;obtain ⟨j,rfl⟩:∃j',j=j'+1:=⟨j - 1,by omega⟩;rw [Ze4 es q k n λp hp=>⟨_,hex p hp⟩,Ze4 es q j n λp hp=>⟨_,hex p hp⟩];refine Zgj es q n ps (λh6 p hp=>?_) (λh6 p hp=>?_)
  . have:=hex p hp;rw [show (n.op==6)=false from by simp [h6]] at this;have:=Uc hp;exact Zek es q N p (by omega) (by assumption) k j (by omega) (by omega)
  . have h1:=hex p hp;rw [show (n.op==6)=true from by simp [h6]] at h1;obtain ⟨h2,h3⟩:=Zap h1;have:=Uc hp;exact Zek es q N p.tail (by omega) h2 k j (by omega) (by omega)
def evX (es:List En)(q:Rq)(xs:List Nd):Rs (List Nd):=evE es q xs.length xs
theorem V6 (es:List En)(q:Rq){x:Nd}{ps:List (List Nd)}(h:∀p∈ps,Ex (.one (x.op==6)) p):evX es q (x :: ps.flatten)=Kt es q x ps (evX es q):=by
 unfold evX;rw [List.length_cons,Ze4 es q _ x λp hp=>⟨_,h p hp⟩];refine Zgj es q x ps (λh6 p hp=>?_) (λh6 p hp=>?_)
 . have h1:=h p hp;rw [show (x.op==6)=false from by simp [h6]] at h1;exact Zek es q _ p (nL _) h1 _ _ (Uc hp) (nL _)
 . have h1:=h p hp;rw [show (x.op==6)=true from by simp [h6]] at h1;obtain ⟨h2,h3⟩:=Zap h1;exact Zek es q _ p.tail (nL _) h2 _ _ (by have:=Uc hp;omega) (nL _)
theorem Zce (es:List En)(q:Rq){x:Nd}(h:x.op=1\/x.op=2\/x.op=3\/x.op=4):evX es q [x]=.ok [x]:=by
 have:=V6 es q (x:=x) (ps:=[]) (by simp);rw [List.flatten_nil] at this;rw [this];unfold Kt;rw [if_pos h]
theorem Zti (es:List En)(q:Rq){x:Nd}(h:x.op=8):evX es q [x]=Jf q x.s.toList:=by
 have:=V6 es q (x:=x) (ps:=[]) (by simp);rw [List.flatten_nil] at this;rw [this];unfold Kt;rw [if_neg (by omega),if_pos h]
theorem Zbn (es:List En)(q:Rq){x:Nd}{a:List Nd}(h:x.op=9\/x.op=10\/x.op=21\/x.op=22\/x.op=23\/x.op=24)(ha:Ex (.one false) a):evX es q (x :: a)=(evX es q a).bind λv=>Yc es x v:=by
 have e6:(x.op==6)=false:=by simp;omega
 have e5:(x.op==5)=false:=by simp;omega
 have:=V6 es q (x:=x) (ps:=[a]) (by intro p hp;simp at hp;subst hp;rw [e6];exact ha);rw [show [a].flatten=a by simp] at this;rw [this];unfold Kt;rw [if_neg (by omega),if_neg (by omega),e5,e6]
theorem Zm8 (es:List En)(q:Rq){x:Nd}{a b:List Nd}(h:x.op=11\/x.op=12)(ha:Ex (.one false) a)(hb:Ex (.one false) b):evX es q (x :: (a++b))=Xm x.op (evX es q a) (evX es q b):=by
 have e6:(x.op==6)=false:=by simp;omega
 have e5:(x.op==5)=false:=by simp;omega
 have:=V6 es q (x:=x) (ps:=[a,b]) (by intro p hp;simp at hp;rw [e6];rcases hp with rfl | rfl <;> assumption);rw [show [a,b].flatten=a++b by simp] at this;rw [this];unfold Kt;rw [if_neg (by omega),if_neg (by omega),e5,e6];simp only;rw [if_pos h]
theorem Zta (es:List En)(q:Rq){x:Nd}{a b:List Nd}(h:x.op=14\/x.op=15\/x.op=16\/x.op=17\/x.op=18\/x.op=19\/x.op=20\/x.op=25\/x.op=26\/x.op=27)(ha:Ex (.one false) a)(hb:Ex (.one false) b) :
 evX es q (x :: (a++b))=(evX es q a).bind λu=>(evX es q b).bind λv=>Yn es x.op u v:=by
 have e6:(x.op==6)=false:=by simp;omega
 have e5:(x.op==5)=false:=by simp;omega
 have:=V6 es q (x:=x) (ps:=[a,b]) (by intro p hp;simp at hp;rw [e6];rcases hp with rfl | rfl <;> assumption);rw [show [a,b].flatten=a++b by simp] at this;rw [this];unfold Kt;rw [if_neg (by omega),if_neg (by omega),e5,e6];simp only;rw [if_neg (by omega)]
theorem Z0e (es:List En)(q:Rq){x:Nd}{c a b:List Nd}(h:x.op=13)(hc:Ex (.one false) c)(ha:Ex (.one false) a)(hb:Ex (.one false) b):evX es q (x :: (c++(a++b)))=Vm (evX es q c) (evX es q a) (evX es q b):=by
 have e6:(x.op==6)=false:=by simp;omega
 have e5:(x.op==5)=false:=by simp;omega
 have:=V6 es q (x:=x) (ps:=[c,a,b]) (by intro p hp;simp at hp;rw [e6];rcases hp with rfl | rfl | rfl <;> assumption);rw [show [c,a,b].flatten=c++(a++b) by simp] at this;rw [this];unfold Kt;rw [if_neg (by omega),if_neg (by omega),e5,e6]
theorem Zgo:∀{vs:List (List Nd)},Vl vs=0->∀v∈vs,Zb v=0
 | v :: r,h,u,hu=>by
  rw [Vl] at h;split at h
  . rename_i h1;exact absurd h h1
  . rename_i h1;rcases List.mem_cons.1 hu with rfl | hu
    . exact Classical.not_not.1 h1
    . exact Zgo h u hu
theorem Zm7 {vs:List (List Nd)}{v:List Nd}(h:Qc vs=.ok v):Zb v=0:=by
 unfold Qc at h;split at h
 . cases h
 . rename_i hk;injection h with h
   subst h;unfold V7 at hk ⊢;split at hk
   . rename_i h1;exact absurd h1 hk
   . rename_i h1;rw [if_neg h1];split at hk
     . exact absurd (by decide) hk
     . rename_i h2;rw [if_neg h2];have hv:∀p∈vs,Vx p:=λp hp=>((Z0 p).1 (Zgo (Classical.not_not.1 h1) p hp)).2;refine (Z0 _).2 ⟨by simp only;omega,?_⟩;exact .set _ (Yd vs) (by simp [Zj,ByteArray.toList_mk]) rfl rfl (λp hp=>hv p (Xk hp)) (Zjq (U1 vs) (by simp))
theorem Zlf:∀{fs:List (ByteArray × List Nd)} {met:List (List UInt8)},Jz fs met=0->(∀f∈fs,Zf f.1.toList=0/\f.1.toList ∉ met/\Zb f.2=0)/\(fs.map λf=>f.1.toList).Nodup
 | [],met,_=>by simp
 | (s,v) :: r,met,h=>by
  rw [Jz] at h;split at h
  . rename_i h1;exact absurd h h1
  . rename_i h1;split at h
    . exact absurd h (by decide)
    . rename_i h2;split at h
      . rename_i h3;exact absurd h h3
      . rename_i h3;obtain ⟨i1,i2⟩:=Zlf h;refine ⟨λf hf=>?_,?_⟩
        . rcases List.mem_cons.1 hf with rfl | hf
          . exact ⟨Classical.not_not.1 h1,h2,Classical.not_not.1 h3⟩
          . have:=i1 f hf;exact ⟨this.1,λhm=>this.2.1 (by simp [hm]),this.2.2⟩
        . rw [List.map_cons,List.nodup_cons];refine ⟨λhm=>?_,i2⟩;obtain ⟨f,hf,e⟩:=List.mem_map.1 hm;exact (i1 f hf).2.1 (by simp [e])
theorem Zm1 {fs:List (ByteArray × List Nd)}{v:List Nd}(h:Ky fs=.ok v):Zb v=0:=by
 unfold Ky at h;split at h
 . cases h
 . rename_i h1;split at h
   . cases h
   . rename_i h2;injection h with h
     subst h;obtain ⟨i1,i2⟩:=Zlf (Classical.not_not.1 h1);have hF:∀p∈fs.map (λf=>(⟨7,0,f.1,⟨#[]⟩⟩:Nd) :: f.2),Fx p:=λp hp=>by
      obtain ⟨f,hf,rfl⟩:=List.mem_map.1 hp;have:=i1 f hf;exact ⟨_,_,rfl,rfl,by simp [Zj,this.1,ByteArray.toList_mk],((Z0 _).1 this.2.2).2⟩
     have hE:∀p∈fs.map (λf=>(⟨7,0,f.1,⟨#[]⟩⟩:Nd) :: f.2),Ex (.one true) p:=λp hp=>by
      obtain ⟨f,u,rfl,a,b,c⟩:=hF p hp;exact Zbm a b (Vf c)
     have hnd:(Zi (fs.map λf=>(⟨7,0,f.1,⟨#[]⟩⟩:Nd) :: f.2)).Nodup:=by
      have:Zi (fs.map λf=>(⟨7,0,f.1,⟨#[]⟩⟩:Nd) :: f.2)=fs.map λf=>f.1.toList:=(by unfold Zi;rw [List.map_map];rfl);rw [this];exact i2
     refine (Z0 _).2 ⟨by omega,?_⟩;unfold Yx;exact .rcd' (by simp [Zj,ByteArray.toList_mk]) rfl (by rw [(Zn _).length_eq,List.length_map]) (λp hp=>hF p ((Zn _).mem_iff.1 hp)) (Zep (Zbf hE hnd))
theorem Zso {x:Nd}(h:Zj x=true)(h5:¬x.op=5)(h6:¬x.op=6)(h7:¬x.op=7):Zb [x]=0:=(Z0 _).2 ⟨by simp,.leaf x h h5 h6 h7⟩
theorem Za4 (b:Bool):Zb [bN b]=0:=Zso (by cases b <;> simp [bN,Zj,ByteArray.toList_mk]) (by simp [bN]) (by simp [bN]) (by simp [bN])
theorem Zxa (n:Int):Zb [nN n]=0:=Zso (by simp [nN,Zj,ByteArray.toList_mk]) (by simp [nN]) (by simp [nN]) (by simp [nN])
theorem Zw5 {u:Ud}(h:Zw u=0):Zb [eN u]=0:=by
 have h':Zf u.ty.toList=0/\Yi u.id.toList=0:=by
  unfold Zw at h;split at h
  . exact ⟨by assumption,h⟩
  . exact absurd h (by assumption)
 exact Zso (by simp [eN,Zj,h'.1,h'.2]) (by simp [eN]) (by simp [eN]) (by simp [eN])
theorem Zd5 {v p:List Nd}(h:Zb v=0)(hp:p∈Z8 v):p.length<=200:=by
 have hl:=((Z0 v).1 h).1;have hv:=((Z0 v).1 h).2;cases hv with
 | leaf n hs h5' h6' h7=>simp [Z8,Va] at hp
 | set n ps hs h5' hn hv hc=>
  have hk:Z8 (n :: ps.flatten)=ps:=Xr ps (λp hp'=>⟨false,Vf (hv p hp')⟩) _ (nL _);rw [hk] at hp;have:=Uc hp;rw [List.length_cons] at hl;omega
 | rcd n ps hs h6' hn h1 h2 h3 hc=>
  have hk:Z8 (n :: ps.flatten)=ps:=Xr ps (λp hp=>by
   obtain ⟨f,u,rfl⟩:=h1 p hp;exact ⟨true,Zbm (h2 f u hp).1 (h2 f u hp).2 (Vf (h3 f u hp))⟩) _ (nL _)
  rw [hk] at hp;have:=Uc hp;rw [List.length_cons] at hl;omega
theorem Z10 {v w:List Nd}{s:ByteArray}(h:Js v s=.ok w):Zb w=0:=by
 unfold Js at h;split at h
 . cases h
 . rename_i h0;have h0':Zb v=0:=Classical.not_not.1 h0;split at h
   . rename_i h6;split at h
     . rename_i p hp;injection h with h
       subst h;have hm:=List.mem_of_find?_eq_some hp;have hl:=Zd5 h0' hm;obtain ⟨f,u,rfl,_,hu⟩:=Zaz h0' h6 p hm;rw [List.length_cons] at hl;exact (Z0 _).2 ⟨by rw [List.tail_cons];omega,hu⟩
     . cases h
   . cases h
theorem Zvg {es:List En}{x:Nd}{v w:List Nd}(h:Yc es x v=.ok w):Zb w=0:=by
 unfold Yc at h;split at h
 . obtain ⟨u,_,h2⟩:=Zm h;injection h2 with h2;subst h2;exact Za4 _
 . split at h
   . obtain ⟨u,_,h2⟩:=Zm h;obtain ⟨n,_,h3⟩:=Zm h2;injection h3 with h3;subst h3;exact Zxa _
   . split at h
     . obtain ⟨u,_,h2⟩:=Zm h;obtain ⟨n,_,h3⟩:=Zm h2;injection h3 with h3;subst h3;exact Za4 _
     . split at h
       . obtain ⟨u,_,h2⟩:=Zm h;injection h2 with h2;subst h2;exact Za4 _
       . obtain ⟨r,h1,h2⟩:=Zm h;cases r with
         | none=>
          simp only at h2;split at h2
          . injection h2 with h2;subst h2;exact Za4 _
          . cases h2
         | some r=>
          simp only at h2;split at h2
          . split at h2 <;> (injection h2 with h2;subst h2;exact Za4 _)
          . exact Z10 h2
theorem Zvr {es:List En}{op:Int}{a b w:List Nd}(h:Yn es op a b=.ok w):Zb w=0:=by
 unfold Yn at h;split at h
 . injection h with h;subst h;exact Za4 _
 . split at h
   . obtain ⟨u,_,h2⟩:=Zm h;injection h2 with h2;subst h2;exact Za4 _
   . split at h
     . obtain ⟨u,_,h2⟩:=Zm h;injection h2 with h2;subst h2;exact Za4 _
     . split at h
       . obtain ⟨u,_,h2⟩:=Zm h;injection h2 with h2;subst h2;exact Za4 _
       . split at h
         . obtain ⟨u,_,h2⟩:=Zm h;injection h2 with h2;subst h2;exact Za4 _
         . obtain ⟨u,_,h2⟩:=Zm h;obtain ⟨u',_,h3⟩:=Zm h2;split at h3
           . injection h3 with h3;subst h3;exact Za4 _
           . split at h3
             . injection h3 with h3;subst h3;exact Za4 _
             . obtain ⟨n,_,h4⟩:=Zm h3;injection h4 with h4;subst h4;exact Zxa _
theorem Zls {x:Nd}(h:Zx x=true)(ho:x.op=1\/x.op=2\/x.op=3\/x.op=4):Zb [x]=0:=by
 unfold Zx at h;rw [if_pos ho] at h;simpa using h
theorem Zno {es:List En}{q:Rq}(hq:Vr q=0):∀(k:Nat) (xs:List Nd) {v:List Nd},Ex (.one false) xs->evE es q k xs=.ok v->Zb v=0
 | 0,xs,v,_,h=>by cases h
 | k+1,xs,v,hx,h=>by
  obtain ⟨n,ps,rfl,h7,hs,hc,hex⟩:=Zh1 hx;have ih:=λp v (hp:Ex (.one false) p) (h:evE es q k p=.ok v)=>Zno hq k p hp h;rw [Ze4 es q k n λp hp=>⟨_,hex p hp⟩] at h;unfold Kt at h;have hq':Zw q.who=0/\Zw q.act=0/\Zw q.what=0/\Zb q.ctx=0:=by
   unfold Vr at hq;repeat' split at hq
   all_goals first
    | exact absurd hq (by assumption)
    | exact absurd hq (by decide)
    | exact ⟨Classical.not_not.1 (by assumption),Classical.not_not.1 (by assumption),Classical.not_not.1 (by assumption),Classical.not_not.1 (by assumption)⟩
  split at h
  . rename_i ho;injection h with h;subst h
    exact Zls hs ho
  . split at h
    . unfold Jf at h;split at h
      . injection h with h;subst h;exact Zw5 hq'.1
      . split at h
        . injection h with h;subst h;exact Zw5 hq'.2.1
        . split at h
          . injection h with h;subst h;exact Zw5 hq'.2.2.1
          . split at h
            . injection h with h;subst h;exact hq'.2.2.2
            . cases h
    . by_cases e6:n.op=6
      . have e5:(n.op==5)=false:=(by simp [e6]);have e6':(n.op==6)=true:=(by simp [e6]);rw [e5,e6'] at h;simp only at h;obtain ⟨vs,h1,h2⟩:=Zm h;exact Zm1 h2
      . have e6':(n.op==6)=false:=(by simp [e6]);rw [e6'] at h hex;cases e5:(n.op==5) with
        | true=>
         rw [e5] at h;simp only at h;obtain ⟨vs,h1,h2⟩:=Zm h;exact Zm7 h2
        | false=>
         rw [e5] at h;match ps,hex with
         | [],_=>simp only at h;cases h
         | [a],hex=>
          simp only at h;obtain ⟨u,h1,h2⟩:=Zm h;exact Zvg h2
         | [a,b],hex=>
          simp only at h;split at h
          . unfold Xm at h;obtain ⟨u,h1,h2⟩:=Zm h;split at h2
            . injection h2 with h2;subst h2;exact ih a _ (hex a (by simp)) (Zc9 h1).1
            . exact ih b v (hex b (by simp)) (Zc9 h2).1
          . obtain ⟨u,h1,h2⟩:=Zm h;obtain ⟨u',h3,h4⟩:=Zm h2;exact Zvr h4
         | [c,a,b],hex=>
          simp only at h;unfold Vm at h;obtain ⟨u,h1,h2⟩:=Zm h;split at h2
          . exact ih a v (hex a (by simp)) h2
          . exact ih b v (hex b (by simp)) h2
         | _ :: _ :: _ :: _ :: _,_=>simp only at h;cases h
end Go.Proofs.YtpheiojmcafolaaGreatDoor
namespace Go.Proofs.YtpheiojmcafolaaGreatDoor
open Go
def I64 (a:Int):Prop:=-9223372036854775808<=a/\a<=9223372036854775807
def Zmo (a b c:Int):Bool:=(decide (a < 0)==decide (b < 0)) && (decide (c < 0) != decide (a < 0))
def Zmz (a b c:Int):Bool:=(decide (a < 0) != decide (b < 0)) && (decide (c < 0) != decide (a < 0))
theorem Zzc {a b:Int}(ha:I64 a)(hb:I64 b):Zmo a b (IntKind.i64.wrap (a+b)) = !inR (a+b)/\(inR (a+b)=true->IntKind.i64.wrap (a+b)=a+b):=by
 obtain ⟨a1,a2⟩:=ha;obtain ⟨b1,b2⟩:=hb;unfold Zmo inR;rw [IntKind.wrap_i64];by_cases h1:a < 0 <;> by_cases h2:b < 0 <;> by_cases h3:-9223372036854775808<=a+b <;> by_cases h4:a+b<=9223372036854775807 <;> by_cases h5:(a+b+9223372036854775808) % 18446744073709551616 - 9223372036854775808 < 0 <;> simp [h1,h2,h3,h4,h5] <;> omega
theorem Zx7 {a b:Int}(ha:I64 a)(hb:I64 b):Zmz a b (IntKind.i64.wrap (a - b)) = !inR (a - b)/\(inR (a - b)=true->IntKind.i64.wrap (a - b)=a - b):=by
 obtain ⟨a1,a2⟩:=ha;obtain ⟨b1,b2⟩:=hb;unfold Zmz inR;rw [IntKind.wrap_i64];by_cases h1:a < 0 <;> by_cases h2:b < 0 <;> by_cases h3:-9223372036854775808<=a - b <;> by_cases h4:a - b<=9223372036854775807 <;> by_cases h5:(a - b+9223372036854775808) % 18446744073709551616 - 9223372036854775808 < 0 <;> simp [h1,h2,h3,h4,h5] <;> omega
theorem Zyj {a b:Int}(P most:Nat)(hP:(P:Int)=(a.natAbs:Int)*b.natAbs)(hm:most=if (decide (a < 0) != decide (b < 0))=true then 9223372036854775808 else 9223372036854775807) :
 decide (most < P) = !inR (a*b):=by
 have hab:((a*b).natAbs:Int)=P:=by rw [Int.natAbs_mul,Int.natCast_mul,hP]
 unfold inR;have hsg:(a*b=(P:Int)/\(decide (a < 0) != decide (b < 0))=false)\/(a*b = -(P:Int)/\(decide (a < 0) != decide (b < 0))=true):=by
  by_cases h1:a < 0 <;> by_cases h2:b < 0
  . left
    have:0 < a*b:=Int.mul_pos_of_neg_of_neg h1 h2;exact ⟨by omega,by simp [h1,h2]⟩
  . right
    have:a*b<=0:=Int.mul_nonpos_of_nonpos_of_nonneg (by omega) (by omega);exact ⟨by omega,by simp [h1,h2]⟩
  . right
    have:a*b<=0:=Int.mul_nonpos_of_nonneg_of_nonpos (by omega) (by omega);exact ⟨by omega,by simp [h1,h2]⟩
  . left
    have:0<=a*b:=Int.mul_nonneg (by omega) (by omega);exact ⟨by omega,by simp [h1,h2]⟩
 rcases hsg with ⟨e,hs⟩ | ⟨e,hs⟩
 . rw [hs] at hm;rw [e];simp only [Bool.false_eq_true,if_false] at hm;by_cases h:P<=9223372036854775807
   . have:¬most < P:=(by omega);have h2:(P:Int)<=9223372036854775807:=(by omega);have h3:-9223372036854775808<=(P:Int):=(by omega);simp [this,h2,h3]
   . have:most < P:=(by omega);have h2:¬(P:Int)<=9223372036854775807:=(by omega);simp [this,h2]
 . rw [hs] at hm;rw [e];simp only [if_true] at hm;by_cases h:P<=9223372036854775808
   . have:¬most < P:=(by omega);have h2:-(P:Int)<=9223372036854775807:=(by omega);have h3:-9223372036854775808<=-(P:Int):=(by omega);simp [this,h2,h3]
   . have:most < P:=(by omega);have h3:¬-9223372036854775808<=-(P:Int):=(by omega);simp [this,h3]
end Go.Proofs.YtpheiojmcafolaaGreatDoor
namespace Go.Proofs.YtpheiojmcafolaaGreatDoor
open Go.RowKit
def rsN (r:Rs Int):Int:=match r with | .ok n=>n | .bad _=>0
def rsB (r:Rs Bool):Bool:=match r with | .ok b=>b | .bad _=>false
def rsE {α:Type}(r:Rs α):Int:=match r with | .ok _=>0 | .bad k=>k
theorem Zpj (a:Int)(w:World)(ha:I64 a):Calls Tryz.prog 156 #[.int .i64 a] w λr w'=>r=.returned (.int .u64 (a.natAbs:Nat))/\w'=w:=by
 obtain ⟨a1,a2⟩:=ha;by_cases h:a < 0
 . have t:decide (a < 0)=true:=by simp [h]
   have e:IntKind.u64.wrap (-(IntKind.u64.wrap a))=(a.natAbs:Int):=by rw [IntKind.wrap_u64,IntKind.wrap_u64];omega
   go_enter Tryz.func156,Tryz.ntmps156
   go_wp2_with fail
   go_ret
   exact ⟨by first | rfl | (rw [<-e];rfl) | (simp only [e]),rfl⟩
 . have t:decide (a < 0)=false:=by simp [h]
   have e:IntKind.u64.wrap a=(a.natAbs:Int):=by rw [IntKind.wrap_u64];omega
   go_enter Tryz.func156,Tryz.ntmps156
   go_wp2_with fail
   go_ret
   exact ⟨by first | rfl | (rw [<-e];rfl) | (simp only [e]),rfl⟩
def U2 (r:Rs Int)(e:Ending):Prop:=e=.returned (.tuple #[.int .i64 (rsN r),Yh (rsE r)])
theorem Zzb {a b:Int}:numR 17 a b=if inR (a+b)=true then .ok (a+b) else .bad 5:=rfl
theorem Zo6 {a b:Int}:numR 18 a b=if inR (a - b)=true then .ok (a - b) else .bad 5:=rfl
theorem Zzj {a b:Int}:numR 19 a b=if inR (a*b)=true then .ok (a*b) else .bad 5:=rfl
theorem Z3i (a b:Int)(w:World)(ha:I64 a)(hb:I64 b):Calls Tryz.prog 124 #[.int .i64 17,.int .i64 a,.int .i64 b] w λr w'=>U2 (numR 17 a b) r/\w'=w:=by
 obtain ⟨h1,h2⟩:=Zzc ha hb;have HR:Hid (numR 17 a b=if inR (a+b)=true then .ok (a+b) else .bad 5):=rfl;have H2:=Ld h2;unfold Zmo at h1;obtain ⟨q,hq⟩:∃q,inR (a+b)=q:=⟨_,rfl⟩;rw [hq] at h1;have HQ:=Ld hq;obtain ⟨c,hc⟩:∃c,IntKind.i64.wrap (a+b)=c:=⟨_,rfl⟩;rw [hc] at h1;have HC:=Ld hc;clear h2 hq;cases hx:decide (a < 0) <;> cases hy:decide (b < 0) <;> cases hz:decide (c < 0) <;> rw [hx,hy,hz] at h1 <;> cases q <;> first | (exact absurd h1 (by decide)) | (
  clear h1;go_enter Tryz.func124,Tryz.ntmps124
  go_wp2_with fail
  go_ret2
  refine ⟨?_,rfl⟩;unfold U2;rw [HR.out,HQ.out];first
   | (have e:=H2.out HQ.out;rw [HC.out] at e;simp only [if_true,rsN,rsE];rw [e];rfl)
   | rfl)
theorem Zs8 (a b:Int)(w:World)(ha:I64 a)(hb:I64 b):Calls Tryz.prog 124 #[.int .i64 18,.int .i64 a,.int .i64 b] w λr w'=>U2 (numR 18 a b) r/\w'=w:=by
 obtain ⟨h1,h2⟩:=Zx7 ha hb;have HR:Hid (numR 18 a b=if inR (a - b)=true then .ok (a - b) else .bad 5):=rfl;have H2:=Ld h2;unfold Zmz at h1;obtain ⟨q,hq⟩:∃q,inR (a - b)=q:=⟨_,rfl⟩;rw [hq] at h1;have HQ:=Ld hq;obtain ⟨c,hc⟩:∃c,IntKind.i64.wrap (a - b)=c:=⟨_,rfl⟩;rw [hc] at h1;have HC:=Ld hc;clear h2 hq;cases hx:decide (a < 0) <;> cases hy:decide (b < 0) <;> cases hz:decide (c < 0) <;> rw [hx,hy,hz] at h1 <;> cases q <;> first | (exact absurd h1 (by decide)) | (
  clear h1;go_enter Tryz.func124,Tryz.ntmps124
  go_wp2_with fail
  go_ret2
  refine ⟨?_,rfl⟩;unfold U2;rw [HR.out,HQ.out];first
   | (have e:=H2.out HQ.out;rw [HC.out] at e;simp only [if_true,rsN,rsE];rw [e];rfl)
   | rfl)
theorem Zu7 {P most:Nat}(hm:most < 18446744073709551616):(decide (0 < P / 18446744073709551616) || decide (most < P % 18446744073709551616))=decide (most < P):=by
 have e:=Nat.div_add_mod P 18446744073709551616;by_cases h1:0 < P / 18446744073709551616
 . have h2:most < P:=by omega
   simp [h1,h2]
 . have h3:P / 18446744073709551616=0:=by omega
   rw [h3] at e;have h4:P % 18446744073709551616=P:=by omega
   simp [h3,h4]
theorem Z1d (a b:Int)(w:World)(ha:I64 a)(hb:I64 b):Calls Tryz.prog 124 #[.int .i64 19,.int .i64 a,.int .i64 b] w λr w'=>U2 (numR 19 a b) r/\w'=w:=by
 have HR:Hid (numR 19 a b=if inR (a*b)=true then .ok (a*b) else .bad 5):=rfl;have HA:=Ld (λW=>Zpj a W ha);have HB:=Ld (λW=>Zpj b W hb);obtain ⟨ha1,ha2⟩:=ha;obtain ⟨hb1,hb2⟩:=hb;have hza:a.natAbs < 18446744073709551616:=by omega
 have hzb:b.natAbs < 18446744073709551616:=by omega
 have HM:=Ld (λW=>Tryz.bits_Mul64 a.natAbs b.natAbs hza hzb W);have HOV:=Ld (λmost hm=>Zyj (a:=a) (b:=b) (a.natAbs*b.natAbs) most (by simp) hm);have HW:Hid (inR (a*b)=true->IntKind.i64.wrap (a*b)=a*b):=by
  intro h;unfold inR at h;simp only [Bool.and_eq_true,decide_eq_true_eq] at h;rw [IntKind.wrap_i64];omega
 obtain ⟨hi,hhi⟩:∃hi:Nat,a.natAbs*b.natAbs / 18446744073709551616=hi:=⟨_,rfl⟩;obtain ⟨lo,hlo⟩:∃lo:Nat,a.natAbs*b.natAbs % 18446744073709551616=lo:=⟨_,rfl⟩;rw [hhi,hlo] at HM;have HHI:=Ld hhi;have HLO:=Ld hlo;clear hhi hlo;obtain ⟨na,hna⟩:∃na,a.natAbs=na:=⟨_,rfl⟩;obtain ⟨nb,hnb⟩:∃nb,b.natAbs=nb:=⟨_,rfl⟩;rw [hna] at HA HM hza;rw [hnb] at HB HM hzb;rw [hna,hnb] at HHI HLO HOV;obtain ⟨q,hq⟩:∃q,inR (a*b)=q:=⟨_,rfl⟩;have HQ:=Ld hq;obtain ⟨c,hc⟩:∃c,IntKind.i64.wrap (a*b)=c:=⟨_,rfl⟩;have HC:=Ld hc;clear hna hnb hq ha1 ha2 hb1 hb2 hza hzb;have HHL:Hid (∀most:Nat,most < 18446744073709551616->most=(if (decide (a < 0) != decide (b < 0))=true then 9223372036854775808 else 9223372036854775807)->(decide (0 < hi) || decide (most < lo)) = !q):=by
  intro most hm he;have h:=HOV.out most he;rw [HQ.out,<-Zu7 hm,HHI.out,HLO.out] at h;exact h
 clear HOV HHI HLO;cases hx:decide (a < 0) <;> cases hy:decide (b < 0)
 . have hov:=HHL.out 9223372036854775807 (by omega) (by rw [hx,hy];rfl);have e1:decide ((0:Int) < (hi:Int))=decide (0 < hi):=by rw [decide_eq_decide];omega
   have e2:decide ((9223372036854775807:Int) < (lo:Int))=decide (9223372036854775807 < lo):=by rw [decide_eq_decide];omega
   cases h1:decide (0 < hi) <;> cases h2:decide (9223372036854775807 < lo) <;> rw [h1,h2] at hov <;> rw [h1] at e1 <;> rw [h2] at e2 <;> cases q <;> first | (exact absurd hov (by decide)) | (
    clear hov;go_enter Tryz.func124,Tryz.ntmps124
    go_wp2_with fail
    refine (HA.out _).mono ?_;rintro r w1 ⟨rfl,rfl⟩;go_wp2_with fail
    refine (HB.out _).mono ?_;rintro r w1 ⟨rfl,rfl⟩;go_wp2_with fail
    refine (HM.out _).mono ?_;rintro r w1 ⟨rfl,rfl⟩;go_wp2_with fail
    go_ret2
    refine ⟨?_,rfl⟩;unfold U2;rw [HR.out,HQ.out];first
     | rfl
     | (have e:=HW.out HQ.out;rw [HC.out] at e;subst e;rfl))
 . have hov:=HHL.out 9223372036854775808 (by omega) (by rw [hx,hy];rfl);have e1:decide ((0:Int) < (hi:Int))=decide (0 < hi):=by rw [decide_eq_decide];omega
   have e2:decide ((9223372036854775808:Int) < (lo:Int))=decide (9223372036854775808 < lo):=by rw [decide_eq_decide];omega
   cases h1:decide (0 < hi) <;> cases h2:decide (9223372036854775808 < lo) <;> rw [h1,h2] at hov <;> rw [h1] at e1 <;> rw [h2] at e2 <;> cases q <;> first | (exact absurd hov (by decide)) | (
    clear hov;go_enter Tryz.func124,Tryz.ntmps124
    go_wp2_with fail
    refine (HA.out _).mono ?_;rintro r w1 ⟨rfl,rfl⟩;go_wp2_with fail
    refine (HB.out _).mono ?_;rintro r w1 ⟨rfl,rfl⟩;go_wp2_with fail
    refine (HM.out _).mono ?_;rintro r w1 ⟨rfl,rfl⟩;go_wp2_with fail
    go_ret2
    refine ⟨?_,rfl⟩;unfold U2;rw [HR.out,HQ.out];first
     | rfl
     | (have e:=HW.out HQ.out;rw [HC.out] at e;subst e;rfl))
 . have hov:=HHL.out 9223372036854775808 (by omega) (by rw [hx,hy];rfl);have e1:decide ((0:Int) < (hi:Int))=decide (0 < hi):=by rw [decide_eq_decide];omega
   have e2:decide ((9223372036854775808:Int) < (lo:Int))=decide (9223372036854775808 < lo):=by rw [decide_eq_decide];omega
   cases h1:decide (0 < hi) <;> cases h2:decide (9223372036854775808 < lo) <;> rw [h1,h2] at hov <;> rw [h1] at e1 <;> rw [h2] at e2 <;> cases q <;> first | (exact absurd hov (by decide)) | (
    clear hov;go_enter Tryz.func124,Tryz.ntmps124
    go_wp2_with fail
    refine (HA.out _).mono ?_;rintro r w1 ⟨rfl,rfl⟩;go_wp2_with fail
    refine (HB.out _).mono ?_;rintro r w1 ⟨rfl,rfl⟩;go_wp2_with fail
    refine (HM.out _).mono ?_;rintro r w1 ⟨rfl,rfl⟩;go_wp2_with fail
    go_ret2
    refine ⟨?_,rfl⟩;unfold U2;rw [HR.out,HQ.out];first
     | rfl
     | (have e:=HW.out HQ.out;rw [HC.out] at e;subst e;rfl))
 . have hov:=HHL.out 9223372036854775807 (by omega) (by rw [hx,hy];rfl);have e1:decide ((0:Int) < (hi:Int))=decide (0 < hi):=by rw [decide_eq_decide];omega
   have e2:decide ((9223372036854775807:Int) < (lo:Int))=decide (9223372036854775807 < lo):=by rw [decide_eq_decide];omega
   cases h1:decide (0 < hi) <;> cases h2:decide (9223372036854775807 < lo) <;> rw [h1,h2] at hov <;> rw [h1] at e1 <;> rw [h2] at e2 <;> cases q <;> first | (exact absurd hov (by decide)) | (
    clear hov;go_enter Tryz.func124,Tryz.ntmps124
    go_wp2_with fail
    refine (HA.out _).mono ?_;rintro r w1 ⟨rfl,rfl⟩;go_wp2_with fail
    refine (HB.out _).mono ?_;rintro r w1 ⟨rfl,rfl⟩;go_wp2_with fail
    refine (HM.out _).mono ?_;rintro r w1 ⟨rfl,rfl⟩;go_wp2_with fail
    go_ret2
    refine ⟨?_,rfl⟩;unfold U2;rw [HR.out,HQ.out];first
     | rfl
     | (have e:=HW.out HQ.out;rw [HC.out] at e;subst e;rfl))
theorem Z2t (a:Int)(w:World)(ha:I64 a):Calls Tryz.prog 113 #[.int .i64 a] w λr w'=>U2 (numR 18 0 a) r/\w'=w:=by
 have H:=Ld (Zs8 0 a w ⟨by omega,by omega⟩ ha);generalize numR 18 0 a=q at H ⊢;go_enter Tryz.func113,Tryz.ntmps113
 go_wp2_with fail
 refine H.out.mono ?_;rintro r w1 ⟨hr,rfl⟩;unfold U2 at hr;subst hr;go_wp2_with fail
 go_ret2
 exact ⟨rfl,rfl⟩
theorem Zsn (op a b:Int)(w:World)(ho:op=17\/op=18\/op=19)(ha:I64 a)(hb:I64 b):Calls Tryz.prog 124 #[.int .i64 op,.int .i64 a,.int .i64 b] w λr w'=>U2 (numR op a b) r/\w'=w:=by
 rcases ho with rfl | rfl | rfl
 . exact Z3i a b w ha hb
 . exact Zs8 a b w ha hb
 . exact Z1d a b w ha hb
end Go.Proofs.YtpheiojmcafolaaGreatDoor
