/-
 THE WALKS: val.RecOf.
-/
import Derived.Test.YtpheiojmcafolaaGreatDoorSz22
set_option maxRecDepth 100000
set_option maxHeartbeats 25600000
namespace Go.Proofs.YtpheiojmcafolaaGreatDoor
open Go.RowKit Go.Sort Go.Maps
theorem Y2.but {w w':World}{B g:Nat}{A:Option Addr}{ss:List (List UInt8)}(h:Y2 w B A ss)(hne:∀b o,A=some ⟨b,o,none⟩->b≠g)(hk:∀k,k < B->k≠g->w'.heap[k]? = w.heap[k]?):Y2 w' B A ss:=λhn=>by
 obtain ⟨b,o,e,hb,hc⟩:=h hn;exact ⟨b,o,e,hb,λi l hl=>(World.cell?_of_block (a:=⟨b,o+i,none⟩) (hk b hb (hne b o e))).trans (hc i l hl)⟩
def Zgw (ss:List (List UInt8))(ms:List NsM)(l:List UInt8):List Nd:=⟨7,0,bsL l,⟨#[]⟩⟩ :: (((ms.map NsM.e)[ss.idxOf l]?).getD [])
theorem Zzm (ss:List (List UInt8))(ms:List NsM)(hl:ms.length=ss.length)(hnd:ss.Nodup):(((ss.map bsL).zip (ms.map NsM.e)).map λf=>(⟨7,0,f.1,⟨#[]⟩⟩:Nd) :: f.2)=ss.map (Zgw ss ms):=by
 apply List.ext_getElem
 . simp [hl]
 . intro i h1 h2;have hi:i < ss.length:=by simpa using h2
   have hid:ss.idxOf ss[i]=i:=by
    have hk:ss.idxOf ss[i] < ss.length:=List.idxOf_lt_length_iff.2 (List.getElem_mem hi);exact (List.getElem_inj hnd).1 (List.getElem_idxOf hk)
   have hm:i < (ms.map NsM.e).length:=by simp;omega
   simp only [List.getElem_map,List.getElem_zip,Zgw,hid];rw [gE hm];simp
theorem Zwj (ss:List (List UInt8))(ms:List NsM):Xp (ss.map (Zgw ss ms))=(Uz ss).map (Zgw ss ms):=by
 unfold Xp Uz;rw [List.map_mergeSort];intro a _ b _;show decide (a<=b)=decide ((bsL a).toList<=(bsL b).toList);rw [Vh,Vh]
def Qx (ss:List (List UInt8))(ms:List NsM)(L:List (List UInt8)):List Nd:=L.flatMap (Zgw ss ms)
theorem Zwi {ss:List (List UInt8)}{ms:List NsM}{L:List (List UInt8)}{k:Nat}{l:List UInt8}(h:L[k]? = some l):Qx ss ms (L.take (k+1))=Qx ss ms (L.take k)++Zgw ss ms l:=by
 unfold Qx;rw [List.take_add_one,h,List.flatMap_append];simp
theorem Z3t {ss:List (List UInt8)}{ms:List NsM}{L:List (List UInt8)}(k:Nat):(Qx ss ms (L.take k)).length<=(Qx ss ms L).length:=by
 conv=>rhs;rw [<-List.take_append_drop k L]
 unfold Qx;rw [List.flatMap_append,List.length_append];omega
theorem Zyq (ss:List (List UInt8))(ms:List NsM)(hl:ms.length=ss.length)(hnd:ss.Nodup)(hg:Jz ((ss.map bsL).zip (ms.map NsM.e)) []=0) :
 Ky ((ss.map bsL).zip (ms.map NsM.e))=if 200 < (⟨6,ss.length,⟨#[]⟩,⟨#[]⟩⟩ :: Qx ss ms (Uz ss):List Nd).length then .bad 4 else .ok (⟨6,ss.length,⟨#[]⟩,⟨#[]⟩⟩ :: Qx ss ms (Uz ss)):=by
 unfold Ky;rw [if_neg (by simp [hg])];have e:Yx ((ss.map bsL).zip (ms.map NsM.e))=⟨6,ss.length,⟨#[]⟩,⟨#[]⟩⟩ :: Qx ss ms (Uz ss):=by
  unfold Yx Qx;rw [Zzm ss ms hl hnd,Zwj,<-List.flatMap_def];simp [hl]
 rw [e]
theorem Zuq (ss:List (List UInt8))(ms:List NsM)(An Av:Option Addr)(cn cv:Nat)(w:World)(hl:ms.length=ss.length)(hl2:ss.length<=1000)(hnd:ss.Nodup)(hsz:∀l∈ss,l.length<=140737488351232)(hnm:∀l∈ss,Zf l=0)
 (hv:∀y∈ms,Zb y.e=0/\Y0 y.e) (hg:Jz ((ss.map bsL).zip (ms.map NsM.e)) []=0) (hss:Y2 w w.heap.size An ss) (hms:X8 w Av ms) :
 Calls Tryz.prog 141 #[.slice An ss.length cn,.slice Av ms.length cv] w λr w'=>X5 w r w' (rsL (Ky ((ss.map bsL).zip (ms.map NsM.e)))) (rsE (Ky ((ss.map bsL).zip (ms.map NsM.e)))):=by
 obtain ⟨j0,hj,hy0,hy1,hy2⟩:=info_parts Ko;rw [Zyq ss ms hl hnd hg];have hmm:=@run_makeMap Tryz.prog;have HL:=Ld hl;have hle1:ms.length<=ss.length:=by omega
 have hle2:ss.length<=ms.length:=by omega
 have tl:((ss.length:Int) != (ms.length:Int))=false:=by simp;omega
 have HND:=Ld hnd;have HSZ:=Ld hsz;have HNM:=Ld hnm;have HV:=Ld hv;have HSS:=Ld hss;have HMS:=Ld hms;have hb0:RowKit.Below w.heap.size w (w.alloc (.map #[] 0)):=by (repeat (first | assumption | exact bR | apply bD | apply Za | refine bA ?_ _))
 have HBY0:=Ld (Z2h w ss ms);obtain ⟨q,hq⟩:∃q,(if 200 < (⟨6,ss.length,⟨#[]⟩,⟨#[]⟩⟩ :: Qx ss ms (Uz ss):List Nd).length then (.bad 4:Rs (List Nd)) else .ok (⟨6,ss.length,⟨#[]⟩,⟨#[]⟩⟩ :: Qx ss ms (Uz ss)))=q:=⟨_,rfl⟩;rw [hq];have HQ:=Ld hq;clear hl hnd hsz hnm hv hss hms hg hq;go_enter Tryz.func141,Tryz.ntmps141
 go_wp2_with fail
 go_loopw [25] (λkk wr=>∃k:Nat,kk=.int .i64 k/\k<=ss.length/\Hid (Zc8 wr w.heap.size ss ms k)/\RowKit.Below w.heap.size w wr) (λkk _=>ss.length - (intOf kk).toNat)
 case atStart=>exact ⟨0,rfl,by omega,HBY0.out,hb0⟩
 case round=>
  obtain ⟨k,rfl,hk,HBY,hbr⟩:=hrel;have hzr:=hbr.size;by_cases hlt:k < ss.length
  . obtain ⟨l,hl⟩:∃l,ss[k]? = some l:=⟨_,gE hlt⟩;have hlm:=mG hl;obtain ⟨bn,on,rfl,hbn,hcs⟩:=(HSS.out.below hbr).at_ hlt;have d0:wr.cell? ⟨bn,on+k,none⟩=some (.string (bsL l)):=hcs k l hl;obtain ⟨y,hy⟩:∃y,ms[k]? = some y:=⟨_,gE (by omega)⟩;have hym:=mG hy;have HMr:=Ld (HMS.out.later hbr);obtain ⟨bm,om,rfl,hbm,d1⟩:=V4 HMr.out.sl hy;have hbs:(bsL l).size<=140737488351232:=(by have:=HSZ.out l hlm;rw [<-Zk,Vh];exact this);have hbs2:(bsL l).size<=maxLen:=(by unfold maxLen;omega);have HNC:=Ld (by
     have h:=Yw (bsL l) wr hbs;rw [Vh,HNM.out l hlm] at h;exact h)
    have hn1:l ∉ ss.take k:=by
     intro hm;have h1:=HND.out;rw [<-List.take_append_drop k ss,List.nodup_append] at h1;exact h1.2.2 l hm l (mG (i:=0) (by rw [List.getElem?_drop];exact hl)) rfl
    have HMISS:=Ld (λW (h:Zc8 W w.heap.size ss ms k)=>Z0z h hbs2 (by rw [Vh];exact hn1));have HVC:=Ld (λW (hW:RowKit.Below wr.heap.size wr W)=>by
     have g:=(HMr.out.later hW).good y hym;have h:=Ve y.e y.A y.c W g.le g.max (HV.out y hym).2 g.sl;rw [(HV.out y hym).1] at h;exact h)
    have HPUT:=Ld (λW (h:Zc8 W w.heap.size ss ms k)=>Z41 h HND.out hbs2 (by rw [Vh];exact hl) hy (by omega));clear hl hlm hcs hy hym hbs hn1;obtain ⟨s,hs⟩:∃s,bsL l=s:=⟨_,rfl⟩;rw [hs] at d0 HNC HMISS HPUT hbs2;clear hs;go_wp2_with fail
    refine HNC.out.mono ?_;rintro r w1 ⟨rfl,hb1⟩;have e1:=(hb1.cell (p:=⟨bm,om+k,none⟩) (by show bm < _;exact hbm)).trans d1;have HBY1:=Ld (HBY.out.below hb1);have hlook:=HMISS.out w1 HBY1.out;have HB1:=Ld hb1;have HVC1:=Ld (HVC.out w1 hb1);have hbm1:bm < w1.heap.size:=(by have:=hb1.size;omega);clear hb1 d1 d0;go_wp2_with fail
    refine HVC1.out.mono ?_;rintro r w2 ⟨rfl,hb2⟩;have e2:=(hb2.cell (p:=⟨bm,om+k,none⟩) hbm1).trans e1;have HBY2:=Ld (HBY1.out.below hb2);obtain ⟨w3,hput,hby3,hg3⟩:=HPUT.out w2 HBY2.out;have HBY3:=Ld hby3;have hw2:=hbr.trans ((HB1.out.trans (hb2.mono HB1.out.size)).mono hzr);have hw3:RowKit.Below w.heap.size w w3:=hw2.grown hg3 hw2.size (λj hj=>by injection hj with hj;omega);clear hb2 e1 hlook hby3 hg3 hw2;go_wp2_with fail
    exact ⟨⟨k+1,by go_num,by omega,HBY3,hw3⟩,by simp [intOf];omega⟩
  . have HBYN:Hid (Zc8 wr w.heap.size ss ms ss.length):=by
     have e:k=ss.length:=(by omega);rw [<-e];exact HBY.out
    clear HBY;obtain ⟨x0,hx0⟩:∃x0:Nd,x0=⟨6,ss.length,⟨#[]⟩,⟨#[]⟩⟩:=⟨_,rfl⟩;have HX0:=Ld hx0;rw [<-hx0] at HQ;have HOL:=Ld (World.ownsRow_lit (base:=wr.heap.size) (e:=37) (size:=4) wr #[.int .i64 6,.int .i64 ss.length,.string ⟨#[]⟩,.string ⟨#[]⟩] 1 (nL _) (by decide) (by simp));obtain ⟨wA,hwA⟩:∃wA,wr.alloc (.cells #[.int .i64 6,.int .i64 ss.length,.string ⟨#[]⟩,.string ⟨#[]⟩] 37)=wA:=⟨_,rfl⟩;have hbA:RowKit.Below wr.heap.size wr wA:=(by rw [<-hwA];(repeat (first | assumption | exact bR | apply bD | apply Za | refine bA ?_ _)));have hzA:wr.heap.size < wA.heap.size:=(by rw [<-hwA];simp);have HO0:Hid (wA.ownsRow wr.heap.size 37 4 (.slice (some ⟨wr.heap.size,0,none⟩) 1 1) 1 (flat [x0])):=by
     have:=HOL.out;rw [hwA] at this;rw [hx0];simpa [flat,Nd.cells,Hid] using this
    have HBYA:=Ld (HBYN.out.below hbA);have HWA:=Ld hwA;have HBA:=Ld hbA;have hwA2:=hbr.trans (hbA.mono hzr);have HSSA:=Ld ((HSS.out.below hwA2).more hwA2.size);have HSRT:=Ld (Zlu An ss cn hl2 wA HSSA.out);have HVAL:=Ld (Zjz An ss.length cn wA);clear hx0 HOL hwA hbA hwA2;go_wp2_with fail
    rw [HWA.out];refine HVAL.out.mono ?_;rintro r w1 ⟨rfl,rfl⟩;go_wp2_with fail
    refine HSRT.out.mono ?_;rintro r w2 ⟨As,cs,rfl,hst,hb2,hasb⟩;have HASB:Hid (∀b o,As=some ⟨b,o,none⟩->b≠wr.heap.size):=λb o e=>by have:=hasb b o e;omega
    have HST:=Ld hst;have HO2:=Ld (Zu HO0.out hb2);have HBY2:=Ld (HBYA.out.below hb2);have HB2:Hid (RowKit.Below w.heap.size w w2):=hbr.trans ((HBA.out.trans (hb2.mono HBA.out.size)).mono hzr);have hz2:wA.heap.size<=w2.heap.size:=hb2.size;have HSL:Hid ((Uz ss).length=ss.length):=(by show _=_;simp [Uz]);have HSM:Hid (∀l,l∈Uz ss->l∈ss):=λl hl=>(List.mergeSort_perm ss _).mem_iff.1 hl;clear hst hb2 hasb;generalize Uz ss=S at *;have hS1:S.length<=ss.length:=(by have:=HSL.out;omega);have hS2:ss.length<=S.length:=(by have:=HSL.out;omega);obtain ⟨wo,rfl⟩:∃wo:World,wo=wr:=⟨_,rfl⟩;go_wp2_with fail
    go_loopw [13,66] (λov kk wr=>∃(k l:Nat),kk=.int .i64 k/\k<=S.length/\l<=200/\Hid (l=(x0 :: Qx ss ms (S.take k)).length)/\Hid (wr.ownsRow wo.heap.size 37 4 ov l (flat (x0 :: Qx ss ms (S.take k))))/\Hid (Zc8 wr w.heap.size ss ms ss.length)/\RowKit.Below w.heap.size w wr/\Hid (Y2 wr w2.heap.size As S)/\Hid (∀b,ov.ownBlock=some b->b=wo.heap.size\/w2.heap.size<=b)/\w2.heap.size<=wr.heap.size) (λ_ kk _=>S.length - (intOf kk).toNat)
    case atStart=>exact ⟨0,1,rfl,by omega,by omega,by simp [Qx,Hid],by simpa [Qx,Hid] using HO2.out,HBY2.out,HB2.out,HST.out,λb h=>by injection h with h;exact .inl h.symm,nL _⟩
    case round=>
     obtain ⟨k,l,rfl,hk1,hl200,HLL,HOr,HBYr,hbr2,HSTr,HOWr,hzr2⟩:=hrel;by_cases hlt2:k < S.length
     . obtain ⟨nm,hnm⟩:∃nm,S[k]? = some nm:=⟨_,gE hlt2⟩;have hns:nm∈ss:=HSM.out nm (mG hnm);obtain ⟨bs,os,rfl,hbs,hcs⟩:=HSTr.out.at_ hlt2;have d0:wr.cell? ⟨bs,os+k,none⟩=some (.string (bsL nm)):=hcs k nm hnm;have hik:ss.idxOf nm < ss.length:=List.idxOf_lt_length_iff.2 hns;have hig:ss[ss.idxOf nm]? = some nm:=(by rw [gE hik,List.getElem_idxOf hik]);obtain ⟨⟨Ay,cy,ey⟩,hy⟩:∃y,ms[ss.idxOf nm]? = some y:=⟨_,gE (by omega)⟩;have hym:=mG hy;have HFD:Hid (Zgw ss ms nm=⟨7,0,bsL nm,⟨#[]⟩⟩ :: ey):=(by show _=_;unfold Zgw;rw [List.getElem?_map,hy];rfl);have HCT:Hid (Qx ss ms (S.take (k+1))=Qx ss ms (S.take k)++Zgw ss ms nm):=Zwi hnm;have HCL:Hid ((Qx ss ms (S.take (k+1))).length<=(Qx ss ms S).length):=Z3t (k+1);have hvy:=HV.out _ hym;have hey200:ey.length<=200:=((Z0 ey).1 hvy.1).1;obtain ⟨yy,yr,hyy,-,-⟩:=((Z0 ey).1 hvy.1).2.ne;have hne:ey≠[]:=(by rw [hyy];simp);have hgy:=HMS.out.good _ hym;obtain ⟨be,oe,rfl,hbe,-⟩:=hgy.sl hne;have HCE:=Ld (λW (hW:RowKit.Below w.heap.size w W) j u hu=>Ye.flat (hgy.sl.below hW) j u hu);have hnz:(bsL nm).size<=maxLen:=(by have:=HSZ.out nm hns;rw [<-Zk,Vh];unfold maxLen;omega);have HLK:=Ld (λW (h:Zc8 W w.heap.size ss ms ss.length)=>Z4m h hnz hik (by rw [Vh];exact hig) hy);have hwoz:w.heap.size < wo.heap.size:=HBYN.out.lt;have HZW:Hid (wo.heap.size < wr.heap.size):=(by show _ < _;omega);obtain ⟨s,hs⟩:∃s,bsL nm=s:=⟨_,rfl⟩;rw [hs] at d0 HLK HFD;have hwB:RowKit.Below wr.heap.size wr (wr.alloc (.cells #[.int .i64 7,.int .i64 0,.string s,.string ⟨#[]⟩] 37)):=(by (repeat (first | assumption | exact bR | apply bD | apply Za | refine bA ?_ _)));have HOB:=Ld (Zu HOr.out hwB);have HOG:Hid (∀ov1:Value,ov1=ov1):=λ_=>rfl;have hob:∀b,u13.ownBlock=some b->wo.heap.size<=b:=λb h=>(Yf HOr.out h).1;have HBG:=Ld (λ(w5:World) (hg:(wr.alloc (.cells #[.int .i64 7,.int .i64 0,.string s,.string ⟨#[]⟩] 37)).grownBy w5 u13.ownBlock)=>RowKit.Below.grown (w:=wr.alloc (.cells #[.int .i64 7,.int .i64 0,.string s,.string ⟨#[]⟩] 37)) (hbr2.trans (hwB.mono hbr2.size)) hg (by have:=hbr2.size;simp;omega) (λq hq=>by have:=hob q hq;omega));have HBYG:=Ld (λ(w5:World) (hg:(wr.alloc (.cells #[.int .i64 7,.int .i64 0,.string s,.string ⟨#[]⟩] 37)).grownBy w5 u13.ownBlock)=>(HBYr.out.below hwB).kept hg (λe=>by have:=hob _ e.symm;omega));have HZG:=Ld (λ(w5:World) (hg:(wr.alloc (.cells #[.int .i64 7,.int .i64 0,.string s,.string ⟨#[]⟩] 37)).grownBy w5 u13.ownBlock)=>(show wr.heap.size+1<=w5.heap.size from by have:=hg.size;simpa using this));have HL2:Hid (l+1+ey.length=(x0 :: Qx ss ms (S.take (k+1))).length):=by
        show _=_;rw [HLL.out,HCT.out,HFD.out];simp;omega
       have HLG:=Ld (λ(w5:World) (v5:Value) (hg:(wr.alloc (.cells #[.int .i64 7,.int .i64 0,.string s,.string ⟨#[]⟩] 37)).grownBy w5 u13.ownBlock) (hloc:v5.ownBlock=u13.ownBlock\/v5.ownBlock=some (wr.alloc (.cells #[.int .i64 7,.int .i64 0,.string s,.string ⟨#[]⟩] 37)).heap.size)=>
        (show (∀b,v5.ownBlock=some b->b=wo.heap.size\/w2.heap.size<=b)/\Y2 w5 w2.heap.size (some ⟨bs,os,none⟩) S from
         ⟨λb hb=>by
          rcases hloc with h | h
          . exact HOWr.out b (h ▸ hb)
          . rw [h] at hb;injection hb with hb;simp at hb;right;omega,
          HSTr.out.but (g:=wo.heap.size) (λb o e=>HASB.out b o e) (λk hk hne=>(hg.block k (by simp;omega) (λe=>by rcases HOWr.out k e.symm with h | h;exact hne h;omega)).trans (RowKit.Below.heap_alloc _ _ _ (by omega)))⟩))
       clear hcs hnm hns hig hy hym hvy hyy hne hgy hnz hs hwB hik;by_cases h200:200 < l+1+ey.length
       . have HQV:Hid (q=.bad 4):=by
          show _=_;rw [<-HQ.out,if_pos (by have:=HL2.out;have:=HCL.out;simp only [List.length_cons] at *;omega)]
         go_wp2_with (first
          | (at_builtin;refine wpList_append_own_at _ rfl (.tmp 70) (.tmp 73) 22 rfl wo.heap.size 37 j0 _ 4 48 Tryz.underlying22 hj hy0 hy1 hy2 rfl (by omega) _ l (flat (x0 :: Qx ss ms (S.take k))) rfl HOB.out ⟨wr.heap.size,0,none⟩ 1 1 (flat [⟨7,0,s,⟨#[]⟩⟩]) rfl rfl (λj u hu=>Zoy wr 37 ⟨7,0,s,⟨#[]⟩⟩ _ rfl j u hu) (Yp _) (by unfold maxLen;omega) (by omega) (by simp;omega) ?_;intro v1 w5 hown5 hgrow5 _ hloc5;obtain ⟨A5,c5,hv5,-⟩:=Jw hown5;subst hv5;have HB5:=Ld (HBG.out w5 hgrow5);have HBY5:=Ld (HBYG.out w5 hgrow5);have hlook:=HLK.out w5 HBY5.out;have HO5:=Ld hown5;have HZ5:=Ld (HZG.out w5 hgrow5);have HLC5:=Ld (HLG.out w5 (.slice A5 (l+1) c5) hgrow5 hloc5);clear hown5 hgrow5 hloc5)
          | (at_builtin;refine wpList_append_own_at _ rfl (.tmp 75) (.tmp 78) 22 rfl wo.heap.size 37 j0 _ 4 48 Tryz.underlying22 hj hy0 hy1 hy2 rfl (by omega) _ (l+1) (flat (x0 :: Qx ss ms (S.take k))++flat [⟨7,0,s,⟨#[]⟩⟩]) rfl HO5.out ⟨be,oe,none⟩ ey.length cy (flat ey) rfl (Xw ey) (HCE.out w5 HB5.out) (Yp ey) (by unfold maxLen;omega) (by omega) (by have:=HZ5.out;omega) ?_;intro v2 w6 hown6 hgrow6 _ hloc6;obtain ⟨A6,c6,hv6,-⟩:=Jw hown6;subst hv6))
         have hw6:=HB5.out.grown hgrow6 HB5.out.size (λq hq=>by have:=(Yf HO5.out hq).1;omega);clear hown6 hgrow6 hlook;go_ret2
         rw [HQV.out];exact X5.none (k:=4) hw6
       . go_wp2_with (first
          | (at_builtin;refine wpList_append_own_at _ rfl (.tmp 70) (.tmp 73) 22 rfl wo.heap.size 37 j0 _ 4 48 Tryz.underlying22 hj hy0 hy1 hy2 rfl (by omega) _ l (flat (x0 :: Qx ss ms (S.take k))) rfl HOB.out ⟨wr.heap.size,0,none⟩ 1 1 (flat [⟨7,0,s,⟨#[]⟩⟩]) rfl rfl (λj u hu=>Zoy wr 37 ⟨7,0,s,⟨#[]⟩⟩ _ rfl j u hu) (Yp _) (by unfold maxLen;omega) (by omega) (by simp;omega) ?_;intro v1 w5 hown5 hgrow5 _ hloc5;obtain ⟨A5,c5,hv5,-⟩:=Jw hown5;subst hv5;have HB5:=Ld (HBG.out w5 hgrow5);have HBY5:=Ld (HBYG.out w5 hgrow5);have hlook:=HLK.out w5 HBY5.out;have HO5:=Ld hown5;have HZ5:=Ld (HZG.out w5 hgrow5);have HLC5:=Ld (HLG.out w5 (.slice A5 (l+1) c5) hgrow5 hloc5);clear hown5 hgrow5 hloc5)
          | (at_builtin;refine wpList_append_own_at _ rfl (.tmp 75) (.tmp 78) 22 rfl wo.heap.size 37 j0 _ 4 48 Tryz.underlying22 hj hy0 hy1 hy2 rfl (by omega) _ (l+1) (flat (x0 :: Qx ss ms (S.take k))++flat [⟨7,0,s,⟨#[]⟩⟩]) rfl HO5.out ⟨be,oe,none⟩ ey.length cy (flat ey) rfl (Xw ey) (HCE.out w5 HB5.out) (Yp ey) (by unfold maxLen;omega) (by omega) (by have:=HZ5.out;omega) ?_;intro v2 w6 hown6 hgrow6 _ hloc6;obtain ⟨A6,c6,hv6,-⟩:=Jw hown6;subst hv6))
         have hw6:=HB5.out.grown hgrow6 HB5.out.size (λq hq=>by have:=(Yf HO5.out hq).1;omega);have HO6:Hid (w6.ownsRow wo.heap.size 37 4 (.slice A6 (l+1+ey.length) c6) (l+1+ey.length) (flat (x0 :: Qx ss ms (S.take (k+1))))):=by
          show World.ownsRow _ _ _ _ _ _ _;rw [HCT.out,HFD.out,<-List.cons_append,show (⟨7,0,s,⟨#[]⟩⟩ :: ey:List Nd) = [⟨7,0,s,⟨#[]⟩⟩]++ey from rfl,<-List.append_assoc,U0,U0];exact hown6
         have HBY6:Hid (Zc8 w6 w.heap.size ss ms ss.length):=HBY5.out.kept hgrow6 (λe=>by have:=(Yf HO5.out e.symm).1;omega);have hz6:w2.heap.size<=w6.heap.size:=(by have:=HZ5.out;have:=hgrow6.size;omega);have HST6:Hid (Y2 w6 w2.heap.size (some ⟨bs,os,none⟩) S):=HLC5.out.2.but (g:=wo.heap.size) (λb o e=>HASB.out b o e) (λk hk hne=>hgrow6.block k (by have:=HZ5.out;omega) (λe=>by rcases HLC5.out.1 k e.symm with h | h;exact hne h;omega));have HOW6:Hid (∀b,(Value.slice A6 (l+1+ey.length) c6).ownBlock=some b->b=wo.heap.size\/w2.heap.size<=b):=λb hb=>by
          rcases hloc6 with h | h
          . exact HLC5.out.1 b (h ▸ hb)
          . rw [h] at hb;injection hb with hb;right;have:=HZ5.out;omega
         clear hown6 hgrow6 hlook;exact ⟨⟨k+1,l+1+ey.length,by go_num,by omega,by omega,HL2,HO6,HBY6,hw6,HST6,HOW6,hz6⟩,by simp [intOf];omega⟩
     . have HT:Hid (S.take k=S):=(by show _=_;rw [List.take_of_length_le (by omega)]);rw [HT.out] at HOr HLL;have HQV:Hid (q=.ok (x0 :: Qx ss ms S)):=(by show _=_;rw [<-HQ.out,if_neg (by have:=HLL.out;omega)]);obtain ⟨Ao,co,hv,hco,hcm4,hso,hnew⟩:=Kr HOr.out;subst hv;have HSO2:=Ld hso;have HNW:=Ld hnew;clear hso HOr hnew;go_wp2_with fail
       go_ret2
       rw [HQV.out];have hll:=HLL.out;subst hll;exact ⟨Ao,co,rfl,hco,hcm4,HSO2.out,hbr2,λb o h=>by have:=HNW.out b o h;omega⟩
end Go.Proofs.YtpheiojmcafolaaGreatDoor
