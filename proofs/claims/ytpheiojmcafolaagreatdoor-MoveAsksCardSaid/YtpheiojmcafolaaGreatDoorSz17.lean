/-
 THE WALKS: link.slotted, link.Slots.
-/
import Derived.Test.YtpheiojmcafolaaGreatDoorSz16
set_option maxRecDepth 100000
set_option maxHeartbeats 25600000
namespace Go.Proofs.YtpheiojmcafolaaGreatDoor
open Go.RowKit Go.Sort
def Xc (s:Sc):Bool:=s.op==5 || s.op==6
set_option maxRecDepth 100000 in
theorem Vb (s:Sc)(w:World):Calls Tryz.prog 138 #[.agg #[.int .i64 s.op,.string s.ty,.string s.uid.ty,.string s.uid.id]] w λe w'=>e=.returned (.bool (Xc s))/\Below w.heap.size w w':=by
 by_cases h5:s.op=5
 . have hv:Xc s=true:=by simp [Xc,h5]
   rw [hv,h5];go_enter Tryz.func138,Tryz.ntmps138
   go_wp2_with fail
   go_ret
   exact ⟨rfl,by (repeat (first | assumption | exact bR | apply bD | apply Za | refine bA ?_ _))⟩
 . by_cases h6:s.op=6
   . have hv:Xc s=true:=(by simp [Xc,h6]);rw [hv,h6];go_enter Tryz.func138,Tryz.ntmps138
     go_wp2_with fail
     go_ret
     exact ⟨rfl,by (repeat (first | assumption | exact bR | apply bD | apply Za | refine bA ?_ _))⟩
   . have hv:Xc s=false:=(by simp [Xc,h5,h6]);have t5:(s.op==5)=false:=(by simp [h5]);have t6:(s.op==6)=false:=(by simp [h6]);rw [hv];clear h5 h6 hv;go_enter Tryz.func138,Tryz.ntmps138
     go_wp2_with fail
     go_ret
     exact ⟨rfl,by (repeat (first | assumption | exact bR | apply bD | apply Za | refine bA ?_ _))⟩
open Go.RowKit Go.Sort
def X0 (p:Po):List (List UInt8):=(if Xc p.who=true then [[63,112,114,105,110,99,105,112,97,108]] else [])++(if Xc p.what=true then [[63,114,101,115,111,117,114,99,101]] else [])
theorem J7 {w:World}{base:Nat}{v:Value}{n:Nat}{ss:List (List UInt8)}(h:w.ownsRow base 9 1 v n (ss.map encStr))(hn:n=ss.length) :
 ∃A c,v=.slice A ss.length c/\ss.length<=c/\c<=9223372036854775807/\Y2 w w.heap.size A ss:=by
 subst hn;rcases h.2 with ⟨hv,h0⟩ | ⟨g,cap,cur,hv,hb,hg,hnc,hcm,hcs,htk⟩
 . exact ⟨none,0,by rw [hv,h0],by omega,by omega,λhne=>absurd (List.eq_nil_of_length_eq_zero h0) hne⟩
 . unfold maxLen at hcm;refine ⟨some ⟨g,0,none⟩,cap,hv,hnc,hcm,λ_=>⟨g,0,rfl,(Array.getElem?_eq_some_iff.1 hg).1,λi l hl=>?_⟩⟩;subst hv;have hi:=(List.getElem?_eq_some_iff.1 hl).1;rw [Nat.zero_add];exact (h.cellAt i (by omega)).trans (by rw [List.getElem?_map,hl];rfl)
theorem Vq {B k n:Nat}{e:TypeId}{v:Value}{xs:List Value}{w w':World}(h:w.ownsRow B e k v n xs)(hb:RowKit.Below w.heap.size w w'):w'.ownsRow B e k v n xs:=
 h.kept (row:=none) ⟨hb.os,hb.tape,hb.output,hb.size,λk hk _=>hb.block k hk⟩ (by cases hv:v.ownBlock with | none=>exact .inl rfl | some g=>exact .inr (by simp))
set_option maxRecDepth 100000 in
theorem Zj2 (p:Po)(cs:List CdM)(A:Option Addr)(c:Nat)(w:World)(hp:p.conds=cs.map CdM.cd)(hz:PoZ p)(hc:Zbe w w.heap.size A cs)(hl:cs.length<=9223372036854775807)(hk:Ys p=0)(h1:Xc p.who=true)(h2:Xc p.what=true) :
 Calls Tryz.prog 102 #[.agg #[.string p.name,.bool p.forbid,.int .i64 p.who.op,.string p.who.ty,.string p.who.uid.ty,.string p.who.uid.id,.int .i64 p.act.op,.string p.act.ty,.string p.act.uid.ty,.string p.act.uid.id,.int .i64 p.what.op,.string p.what.ty,.string p.what.uid.ty,.string p.what.uid.id,.slice A cs.length c]] w λe w'=>Zb9 w e w' (X0 p) 0:=by
 obtain ⟨i0,hi,hz0,hz1,hz2⟩:=info_parts Ke;have HV:Hid (X0 p = [[63,112,114,105,110,99,105,112,97,108],[63,114,101,115,111,117,114,99,101]]):=by show _=_;unfold X0;rw [h1,h2];rfl
 have H1:=Ld (λW=>Vb p.who W);have H2:=Ld (λW=>Vb p.what W);rw [h1] at H1;rw [h2] at H2;have HK:=Ld (λ(W:World) h=>Ja p cs A c W hp hz h hl);rw [hk] at HK;have HC:=Ld hc;clear hp hc hz hk;clear h1 h2;go_enter Tryz.func102,Tryz.ntmps102
 go_wp2_with fail
 refine (HK.out _ (HC.out.later (by (repeat (first | assumption | exact bR | apply bD | apply Za | refine bA ?_ _))))).mono ?_;rintro r w0 ⟨rfl,hb0⟩;have B0:=(Blk.new w 47 _).below hb0 (by simp);have hw0:RowKit.Below w.heap.size w w0:=((RowKit.Below.refl _ _).alloc (nL _) _).trans (hb0.mono (by simp));clear hb0;have c0:=B0.cell;have l0:=B0.lt;go_wp2_with fail
 refine (H1.out _).mono ?_;rintro r w1 ⟨rfl,hb1⟩;have B1:=B0.below hb1 B0.lt;have hw1:=hw0.trans (hb1.mono hw0.size);clear hb1 c0 l0 B0;have c0:=B1.cell;have l0:=B1.lt;go_wp2_with (at_builtin;refine wpList_append_own _ rfl (.tmp 14) (.tmp 15) 23 rfl (w.heap.size+1) 9 i0 _ 1 16 Tryz.underlying23 hi hz0 hz1 hz2 rfl (by omega) (.slice none 0 0) 0 [] rfl (World.ownsRow_nil _ _ _ _) ⟨w1.heap.size,0,none⟩ 1 1 [.string ⟨#[63,112,114,105,110,99,105,112,97,108]⟩] rfl rfl (Zdg _ _ _ _ rfl) (by intro u hu;simp at hu;subst hu;rfl) (by decide) (by omega) (by simp;omega) ?_;intro v2 w2 hown2 hgrow2 _;have hb2:RowKit.Below w.heap.size w w2:=(hw1.alloc hw1.size _).grown hgrow2 (by simp;omega) (by intro q hq;simp [Value.ownBlock] at hq);have B2:Blk w2 w.heap.size 47 _:=(B1.alloc _).below ((RowKit.Below.refl (w.heap.size+1) _).grown hgrow2 (by simp;omega) (by intro q hq;simp [Value.ownBlock] at hq)) (by omega);simp only [Nat.zero_add,List.nil_append] at hown2;have HO2:=Ld hown2;clear hown2 hgrow2 c0 l0 B1 hw1;have c0:=B2.cell;have l0:=B2.lt)
 refine (H2.out _).mono ?_;rintro r w3 ⟨rfl,hb3⟩;have hw3:=hb2.trans (hb3.mono hb2.size);have HO3:=Ld (Vq HO2.out hb3);clear hb3 c0 l0;go_wp2_with (at_builtin;refine wpList_append_own _ rfl (.tmp 20) (.tmp 21) 23 rfl (w.heap.size+1) 9 i0 _ 1 16 Tryz.underlying23 hi hz0 hz1 hz2 rfl (by omega) v2 1 [.string ⟨#[63,112,114,105,110,99,105,112,97,108]⟩] rfl (HO3.out.alloc _) ⟨w3.heap.size,0,none⟩ 1 1 [.string ⟨#[63,114,101,115,111,117,114,99,101]⟩] rfl rfl (Zdg _ _ _ _ rfl) (by intro u hu;simp at hu;subst hu;rfl) (by decide) (by omega) (by simp;have:=hw3.size;omega) ?_;intro v4 w4 hown4 hgrow4 _)
 have hb4:RowKit.Below w.heap.size w w4:=(hw3.alloc hw3.size _).grown hgrow4 (by simp;have:=hw3.size;omega) (λq hq=>by have:=(HO3.out.lt q hq).1;omega);go_ret2
 rw [HV.out];obtain ⟨A4,c4,rfl,h1,h2,h3⟩:=J7 (ss:=[[63,112,114,105,110,99,105,112,97,108],[63,114,101,115,111,117,114,99,101]]) hown4 rfl;exact ⟨A4,c4,rfl,h1,h2,h3,hb4⟩
set_option maxRecDepth 100000 in
theorem Zka (p:Po)(cs:List CdM)(A:Option Addr)(c:Nat)(w:World)(hp:p.conds=cs.map CdM.cd)(hz:PoZ p)(hc:Zbe w w.heap.size A cs)(hl:cs.length<=9223372036854775807)(hk:Ys p=0)(h1:Xc p.who=true)(h2:Xc p.what=false) :
 Calls Tryz.prog 102 #[.agg #[.string p.name,.bool p.forbid,.int .i64 p.who.op,.string p.who.ty,.string p.who.uid.ty,.string p.who.uid.id,.int .i64 p.act.op,.string p.act.ty,.string p.act.uid.ty,.string p.act.uid.id,.int .i64 p.what.op,.string p.what.ty,.string p.what.uid.ty,.string p.what.uid.id,.slice A cs.length c]] w λe w'=>Zb9 w e w' (X0 p) 0:=by
 obtain ⟨i0,hi,hz0,hz1,hz2⟩:=info_parts Ke;have HV:Hid (X0 p = [[63,112,114,105,110,99,105,112,97,108]]):=by show _=_;unfold X0;rw [h1,h2];rfl
 have H1:=Ld (λW=>Vb p.who W);have H2:=Ld (λW=>Vb p.what W);rw [h1] at H1;rw [h2] at H2;have HK:=Ld (λ(W:World) h=>Ja p cs A c W hp hz h hl);rw [hk] at HK;have HC:=Ld hc;clear hp hc hz hk;clear h1 h2;go_enter Tryz.func102,Tryz.ntmps102
 go_wp2_with fail
 refine (HK.out _ (HC.out.later (by (repeat (first | assumption | exact bR | apply bD | apply Za | refine bA ?_ _))))).mono ?_;rintro r w0 ⟨rfl,hb0⟩;have B0:=(Blk.new w 47 _).below hb0 (by simp);have hw0:RowKit.Below w.heap.size w w0:=((RowKit.Below.refl _ _).alloc (nL _) _).trans (hb0.mono (by simp));clear hb0;have c0:=B0.cell;have l0:=B0.lt;go_wp2_with fail
 refine (H1.out _).mono ?_;rintro r w1 ⟨rfl,hb1⟩;have B1:=B0.below hb1 B0.lt;have hw1:=hw0.trans (hb1.mono hw0.size);clear hb1 c0 l0 B0;have c0:=B1.cell;have l0:=B1.lt;go_wp2_with (at_builtin;refine wpList_append_own _ rfl (.tmp 14) (.tmp 15) 23 rfl (w.heap.size+1) 9 i0 _ 1 16 Tryz.underlying23 hi hz0 hz1 hz2 rfl (by omega) (.slice none 0 0) 0 [] rfl (World.ownsRow_nil _ _ _ _) ⟨w1.heap.size,0,none⟩ 1 1 [.string ⟨#[63,112,114,105,110,99,105,112,97,108]⟩] rfl rfl (Zdg _ _ _ _ rfl) (by intro u hu;simp at hu;subst hu;rfl) (by decide) (by omega) (by simp;omega) ?_;intro v2 w2 hown2 hgrow2 _;have hb2:RowKit.Below w.heap.size w w2:=(hw1.alloc hw1.size _).grown hgrow2 (by simp;omega) (by intro q hq;simp [Value.ownBlock] at hq);have B2:Blk w2 w.heap.size 47 _:=(B1.alloc _).below ((RowKit.Below.refl (w.heap.size+1) _).grown hgrow2 (by simp;omega) (by intro q hq;simp [Value.ownBlock] at hq)) (by omega);simp only [Nat.zero_add,List.nil_append] at hown2;have HO2:=Ld hown2;clear hown2 hgrow2 c0 l0 B1 hw1;have c0:=B2.cell;have l0:=B2.lt)
 refine (H2.out _).mono ?_;rintro r w3 ⟨rfl,hb3⟩;have hw3:=hb2.trans (hb3.mono hb2.size);have HO3:=Ld (Vq HO2.out hb3);clear hb3 c0 l0;go_wp2_with fail
 go_ret2
 rw [HV.out];obtain ⟨A4,c4,rfl,h1,h2,h3⟩:=J7 (ss:=[[63,112,114,105,110,99,105,112,97,108]]) HO3.out rfl;exact ⟨A4,c4,rfl,h1,h2,h3,hw3⟩
set_option maxRecDepth 100000 in
theorem Zj6 (p:Po)(cs:List CdM)(A:Option Addr)(c:Nat)(w:World)(hp:p.conds=cs.map CdM.cd)(hz:PoZ p)(hc:Zbe w w.heap.size A cs)(hl:cs.length<=9223372036854775807)(hk:Ys p=0)(h1:Xc p.who=false)(h2:Xc p.what=true) :
 Calls Tryz.prog 102 #[.agg #[.string p.name,.bool p.forbid,.int .i64 p.who.op,.string p.who.ty,.string p.who.uid.ty,.string p.who.uid.id,.int .i64 p.act.op,.string p.act.ty,.string p.act.uid.ty,.string p.act.uid.id,.int .i64 p.what.op,.string p.what.ty,.string p.what.uid.ty,.string p.what.uid.id,.slice A cs.length c]] w λe w'=>Zb9 w e w' (X0 p) 0:=by
 obtain ⟨i0,hi,hz0,hz1,hz2⟩:=info_parts Ke;have HV:Hid (X0 p = [[63,114,101,115,111,117,114,99,101]]):=by show _=_;unfold X0;rw [h1,h2];rfl
 have H1:=Ld (λW=>Vb p.who W);have H2:=Ld (λW=>Vb p.what W);rw [h1] at H1;rw [h2] at H2;have HK:=Ld (λ(W:World) h=>Ja p cs A c W hp hz h hl);rw [hk] at HK;have HC:=Ld hc;clear hp hc hz hk;clear h1 h2;go_enter Tryz.func102,Tryz.ntmps102
 go_wp2_with fail
 refine (HK.out _ (HC.out.later (by (repeat (first | assumption | exact bR | apply bD | apply Za | refine bA ?_ _))))).mono ?_;rintro r w0 ⟨rfl,hb0⟩;have B0:=(Blk.new w 47 _).below hb0 (by simp);have hw0:RowKit.Below w.heap.size w w0:=((RowKit.Below.refl _ _).alloc (nL _) _).trans (hb0.mono (by simp));clear hb0;have c0:=B0.cell;have l0:=B0.lt;go_wp2_with fail
 refine (H1.out _).mono ?_;rintro r w1 ⟨rfl,hb1⟩;have B1:=B0.below hb1 B0.lt;have hw1:=hw0.trans (hb1.mono hw0.size);clear hb1 c0 l0 B0;have c0:=B1.cell;have l0:=B1.lt;go_wp2_with fail
 refine (H2.out _).mono ?_;rintro r w3 ⟨rfl,hb3⟩;have hw3:=hw1.trans (hb3.mono hw1.size);clear hb3 c0 l0;go_wp2_with (at_builtin;refine wpList_append_own _ rfl (.tmp 20) (.tmp 21) 23 rfl (w.heap.size+1) 9 i0 _ 1 16 Tryz.underlying23 hi hz0 hz1 hz2 rfl (by omega) (.slice none 0 0) 0 [] rfl (World.ownsRow_nil _ _ _ _) ⟨w3.heap.size,0,none⟩ 1 1 [.string ⟨#[63,114,101,115,111,117,114,99,101]⟩] rfl rfl (Zdg _ _ _ _ rfl) (by intro u hu;simp at hu;subst hu;rfl) (by decide) (by omega) (by simp;have:=hw3.size;omega) ?_;intro v4 w4 hown4 hgrow4 _)
 have hb4:RowKit.Below w.heap.size w w4:=(hw3.alloc hw3.size _).grown hgrow4 (by simp;have:=hw3.size;omega) (by intro q hq;simp [Value.ownBlock] at hq);go_ret2
 rw [HV.out];obtain ⟨A4,c4,rfl,h1,h2,h3⟩:=J7 (ss:=[[63,114,101,115,111,117,114,99,101]]) hown4 rfl;exact ⟨A4,c4,rfl,h1,h2,h3,hb4⟩
set_option maxRecDepth 100000 in
theorem Zkg (p:Po)(cs:List CdM)(A:Option Addr)(c:Nat)(w:World)(hp:p.conds=cs.map CdM.cd)(hz:PoZ p)(hc:Zbe w w.heap.size A cs)(hl:cs.length<=9223372036854775807)(hk:Ys p=0)(h1:Xc p.who=false)(h2:Xc p.what=false) :
 Calls Tryz.prog 102 #[.agg #[.string p.name,.bool p.forbid,.int .i64 p.who.op,.string p.who.ty,.string p.who.uid.ty,.string p.who.uid.id,.int .i64 p.act.op,.string p.act.ty,.string p.act.uid.ty,.string p.act.uid.id,.int .i64 p.what.op,.string p.what.ty,.string p.what.uid.ty,.string p.what.uid.id,.slice A cs.length c]] w λe w'=>Zb9 w e w' (X0 p) 0:=by
 obtain ⟨i0,hi,hz0,hz1,hz2⟩:=info_parts Ke;have HV:Hid (X0 p = []):=by show _=_;unfold X0;rw [h1,h2];rfl
 have H1:=Ld (λW=>Vb p.who W);have H2:=Ld (λW=>Vb p.what W);rw [h1] at H1;rw [h2] at H2;have HK:=Ld (λ(W:World) h=>Ja p cs A c W hp hz h hl);rw [hk] at HK;have HC:=Ld hc;clear hp hc hz hk;clear h1 h2;go_enter Tryz.func102,Tryz.ntmps102
 go_wp2_with fail
 refine (HK.out _ (HC.out.later (by (repeat (first | assumption | exact bR | apply bD | apply Za | refine bA ?_ _))))).mono ?_;rintro r w0 ⟨rfl,hb0⟩;have B0:=(Blk.new w 47 _).below hb0 (by simp);have hw0:RowKit.Below w.heap.size w w0:=((RowKit.Below.refl _ _).alloc (nL _) _).trans (hb0.mono (by simp));clear hb0;have c0:=B0.cell;have l0:=B0.lt;go_wp2_with fail
 refine (H1.out _).mono ?_;rintro r w1 ⟨rfl,hb1⟩;have B1:=B0.below hb1 B0.lt;have hw1:=hw0.trans (hb1.mono hw0.size);clear hb1 c0 l0 B0;have c0:=B1.cell;have l0:=B1.lt;go_wp2_with fail
 refine (H2.out _).mono ?_;rintro r w3 ⟨rfl,hb3⟩;have hw3:=hw1.trans (hb3.mono hw1.size);clear hb3 c0 l0;go_wp2_with fail
 go_ret2
 rw [HV.out];exact ⟨none,0,rfl,nL _,by omega,Y2.nil _ _ _,hw3⟩
theorem Zqx (p:Po)(cs:List CdM)(A:Option Addr)(c:Nat)(w:World)(hp:p.conds=cs.map CdM.cd)(hz:PoZ p)(hc:Zbe w w.heap.size A cs)(hl:cs.length<=9223372036854775807)(hk:Ys p=0) :
 Calls Tryz.prog 102 #[.agg #[.string p.name,.bool p.forbid,.int .i64 p.who.op,.string p.who.ty,.string p.who.uid.ty,.string p.who.uid.id,.int .i64 p.act.op,.string p.act.ty,.string p.act.uid.ty,.string p.act.uid.id,.int .i64 p.what.op,.string p.what.ty,.string p.what.uid.ty,.string p.what.uid.id,.slice A cs.length c]] w λe w'=>Zb9 w e w' (X0 p) 0:=by
 cases h1:Xc p.who <;> cases h2:Xc p.what
 . exact Zkg p cs A c w hp hz hc hl hk h1 h2
 . exact Zj6 p cs A c w hp hz hc hl hk h1 h2
 . exact Zka p cs A c w hp hz hc hl hk h1 h2
 . exact Zj2 p cs A c w hp hz hc hl hk h1 h2
theorem Z45 (x:Nd)(ps:List NsM)(A:Option Addr)(c:Nat)(w:World)(hs:X8 w A ps)(hne:∀p∈ps,p.e≠[])(hl:(Xl ps).length<=100000)(hp:ps.length<=100000) :
 Calls Tryz.prog 55 #[.agg #[.int .i64 x.op,.int .i64 x.n,.string x.s,.string x.t],.slice A ps.length c] w λr w'=>J6 w r w' (x :: Xl ps):=by
 obtain ⟨i0,hi,hz0,hz1,hz2⟩:=info_parts Ko;have HS:=Ld hs;have HN:=Ld hne;clear hs hne;go_enter Tryz.func55,Tryz.ntmps55
 go_wp2_with fail
 go_loopw [5,12] (λout kk wr=>∃k:Nat,kk=.int .i64 k/\k<=ps.length/\Hid (wr.ownsRow w.heap.size 37 4 out (x :: Xl (ps.take k)).length (flat (x :: Xl (ps.take k))))/\Below w.heap.size w wr)
  (λ_ kk _=>ps.length - (intOf kk).toNat)
 case atStart=>exact ⟨0,rfl,by omega,by simpa [Xl,Hid,flat,Nd.cells] using World.ownsRow_lit (base:=w.heap.size) (e:=37) (size:=4) (w.alloc (.cells #[.int .i64 x.op,.int .i64 x.n,.string x.s,.string x.t] 37)) #[.int .i64 x.op,.int .i64 x.n,.string x.s,.string x.t] 1 (by simp) (by decide) (by simp),by (repeat (first | assumption | exact bR | apply bD | apply Za | refine bA ?_ _))⟩
 case round=>
  obtain ⟨k,rfl,hk,HO,hbr⟩:=hrel;have hzr:=hbr.size;by_cases hlt:k < ps.length
  . obtain ⟨⟨Ap,cp,e⟩,hx⟩:∃p,ps[k]? = some p:=⟨_,gE hlt⟩;have HST:=Ld (Zcs hx);have h1:=Zbo (ps:=ps) k;have h2:=Zbo (ps:=ps) (k+1);rw [HST.out,List.length_append] at h2;have hee:=HN.out _ (mG hx);have hg:=(HS.out.good _ (mG hx)).later hbr;obtain ⟨b,o,rfl,hb,hc0⟩:=V4 (HS.out.later hbr).sl hx;simp only at hc0 hee h2;obtain ⟨bn,on,rfl,hbn,-⟩:=hg.sl hee;have HC:=Ld (λj u hu=>Ye.flat hg.sl j u hu);generalize hpk:Xl (ps.take k)=pk at *;clear hpk hg hx hee;go_wp2_with (at_builtin;refine wpList_append_own _ rfl (.tmp 16) (.tmp 17) 22 rfl w.heap.size 37 i0 _ 4 48 Tryz.underlying22 hi hz0 hz1 hz2 rfl (by omega) u5 (x :: pk).length (flat (x :: pk)) rfl HO.out ⟨bn,on,none⟩ e.length cp (flat e) rfl (Xw e) HC.out (Yp e) (by unfold maxLen;simp;omega) (by simp;omega) (by omega) ?_;intro v1 w1 hown1 hgrow1 _)
    have hb2:RowKit.Below w.heap.size w w1:=hbr.grown hgrow1 hbr.size (λq hq=>(HO.out.lt q hq).1);have hv:=HST.out;exact ⟨⟨k+1,by go_num,by omega,by rw [hv];simpa [Hid,<-U0,Nat.add_right_comm] using hown1,hb2⟩,by simp [intOf];omega⟩
  . have HT:Hid (ps.take k=ps):=(by show _=_;rw [List.take_of_length_le (by omega)]);rw [HT.out] at HO;have hof:=Zpq (xs:=x :: Xl ps) (ys:=[]) (by rw [show flat ([]:List Nd) = [] from rfl,List.append_nil];exact HO.out);rw [List.append_nil] at hof;obtain ⟨Ao,co,rfl,hco,hcm,hso⟩:=hof;have HSO:=Ld hso;clear hso HO;go_wp2_with fail
    go_ret
    exact ⟨Ao,co,rfl,hco,hcm,HSO.out,hbr⟩
end Go.Proofs.YtpheiojmcafolaaGreatDoor
