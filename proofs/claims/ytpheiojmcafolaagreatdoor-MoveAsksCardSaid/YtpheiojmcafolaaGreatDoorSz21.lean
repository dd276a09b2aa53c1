/-
 THE WALKS: package eval: is, truth, must, entity, uid, told.
-/
import Derived.Test.YtpheiojmcafolaaGreatDoorSz14
import Derived.Test.YtpheiojmcafolaaGreatDoorSz20
set_option maxRecDepth 100000
set_option maxHeartbeats 25600000
namespace Go.Proofs.YtpheiojmcafolaaGreatDoor
open Go.RowKit Go.Sort
def noV (k:Int):List PanicEntry:=[{ v:=.iface 96 (.int .i64 k),recovered:=false }]
theorem Z2e (b:Nd)(W:World)(T:TypeId):Ye (W.alloc (.cells #[.int .i64 b.op,.int .i64 b.n,.string b.s,.string b.t] T)) (W.heap.size+1) (some ⟨W.heap.size,0,none⟩) [b]:=λ_=>
 ⟨W.heap.size,0,rfl,by omega,λi x hx=>by
  cases i with
  | zero=>
   simp at hx;subst hx;exact ⟨by simp [World.cell?_alloc_new],by simp [World.cell?_alloc_new],by simp [World.cell?_alloc_new],by simp [World.cell?_alloc_new]⟩
  | succ i=>simp at hx⟩
theorem Zdc (b:Nd)(w:World)(T:TypeId){W:World}(hb:RowKit.Below w.heap.size w W):X3 w (.returned (.slice (some ⟨W.heap.size,0,none⟩) 1 1)) (W.alloc (.cells #[.int .i64 b.op,.int .i64 b.n,.string b.s,.string b.t] T)) [b]:=by
 have:=hb.size;exact ⟨_,1,rfl,by simp,by omega,by rw [World.size_alloc];exact Z2e b W T,by (repeat (first | assumption | exact bR | apply bD | apply Za | refine bA ?_ _)),λb' o h=>by injection h with h;injection h with h _;omega⟩
theorem Zmr (v:List Nd)(op:Int)(A:Option Addr)(c:Nat)(w:World)(hv:Yr v A c w):Calls Tryz.prog 140 #[.slice A v.length c,.int .i64 op] w λr w'=>r=.returned (.bool (opH v==op))/\w'=w:=by
 obtain ⟨x,xr,b,o,hx,rfl,hb,⟨x0,-,-,-⟩,ho,-,-,-,hl⟩:=hv.head;have hl':(0:Int) < (v.length:Int):=by omega
 rw [ho];clear hv hx ho hl;go_enter Tryz.func140,Tryz.ntmps140
 go_wp2_with fail
 go_ret
 exact ⟨rfl,rfl⟩
theorem Xt (q:Bool)(w:World):Calls Tryz.prog 111 #[.bool q] w λr w'=>X3 w r w' [bN q]:=by
 cases q <;> (
  go_enter Tryz.func111,Tryz.ntmps111
  go_wp2_with fail
  go_ret
  exact Zdc (bN _) w 37 (RowKit.Below.refl _ _))
theorem Yo (v:List Nd)(op:Int)(A:Option Addr)(c:Nat)(w:World)(hv:Yr v A c w):Calls Tryz.prog 108 #[.slice A v.length c,.int .i64 op] w λr w'=>((opH v=op->r=.returned (.slice A v.length c))/\(opH v≠op->r=.panicked (noV 2)))/\w'=w:=by
 have HI:=Ld (Zmr v op A c w hv);by_cases h:opH v=op
 . have t:(opH v==op)=true:=by simp [h]
   rw [t] at HI;have HH:=Ld h;clear h hv t;go_enter Tryz.func108,Tryz.ntmps108
   go_wp2_with fail
   refine HI.out.mono ?_;rintro r w1 ⟨rfl,rfl⟩;go_wp2_with fail
   go_ret
   exact ⟨⟨λ_=>rfl,λh=>absurd HH.out h⟩,rfl⟩
 . have t:(opH v==op)=false:=by simp [h]
   rw [t] at HI;have HH:=Ld h;clear h hv t;go_enter Tryz.func108,Tryz.ntmps108
   go_wp2_with fail
   refine HI.out.mono ?_;rintro r w1 ⟨rfl,rfl⟩;go_wp2_with fail
   exact ⟨rfl,⟨λh=>absurd h HH.out,λ_=>rfl⟩,rfl⟩
theorem Zb4 (u:Ud)(w:World):Calls Tryz.prog 107 #[.agg #[.string u.ty,.string u.id]] w λr w'=>X3 w r w' [eN u]:=by
 go_enter Tryz.func107,Tryz.ntmps107
 go_wp2_with fail
 go_ret
 have h:=Zdc (eN u) w 37 (W:=w.alloc (.cells #[.string u.ty,.string u.id] 34)) (by (repeat (first | assumption | exact bR | apply bD | apply Za | refine bA ?_ _)));rw [World.size_alloc] at h;exact h
theorem Znm (t:Addr)(w:World):Calls Tryz.prog 142 #[.nilIface,.iface 202 (.pointer (some t))] w λr w'=>r=.returned (.bool false)/\w'=w:=by
 go_enter Tryz.func142,Tryz.ntmps142
 go_wp2_with fail
 go_ret
 exact ⟨rfl,rfl⟩
theorem Zhz (k:Int)(w:World)(hg:Yy w):Calls Tryz.prog 142 #[.iface 96 (.int .i64 k),.iface 202 (.pointer (some ⟨w.heap.size,0,none⟩))] (w.alloc (.cells #[.int .i64 0] 96)) λr w'=>
 r=.returned (.bool true)/\w'.cell? ⟨w.heap.size,0,none⟩=some (.int .i64 k)/\RowKit.Below w.heap.size w w':=by
 refine (Z5b k ⟨w.heap.size,0,none⟩ (.int .i64 0) (w.alloc (.cells #[.int .i64 0] 96)) (by rw [World.cell?_alloc_lt _ _ ⟨0,0,none⟩ hg.lt];exact hg) (by simp) (by simp)).mono ?_;rintro r w1 ⟨rfl,hw⟩;refine ⟨rfl,by rw [hw];simp [go_sem],?_⟩;rw [hw];exact RowKit.Below.setCell (B:=w.heap.size) (p:=⟨w.heap.size,0,none⟩) (by (repeat (first | assumption | exact bR | apply bD | apply Za | refine bA ?_ _))) (nL _) _
theorem Ze0 (x:Value)(k:Int)(w:World)(hg:Yy w):Calls Tryz.prog 112 #[x,Yh k] w λr w'=>((k=0->r=.returned x)/\(k≠0->r=.panicked (noV k)))/\RowKit.Below w.heap.size w w':=by
 by_cases h0:k=0
 . have HH:=Ld h0;have HN:=Ld (Znm ⟨w.heap.size,0,none⟩ (w.alloc (.cells #[.int .i64 0] 96)));have e:Yh k=.nilIface:=by rw [h0];rfl
   rw [e];clear h0 e hg;go_enter Tryz.func112,Tryz.ntmps112
   go_wp2_with fail
   refine HN.out.mono ?_;rintro r w1 ⟨rfl,rfl⟩;go_wp2_with fail
   go_ret
   exact ⟨⟨λ_=>rfl,λh=>absurd HH.out h⟩,by (repeat (first | assumption | exact bR | apply bD | apply Za | refine bA ?_ _))⟩
 . have HH:=Ld h0;have HM:=Ld (Zhz k w hg);rw [Uh h0];clear h0 hg;go_enter Tryz.func112,Tryz.ntmps112
   go_wp2_with fail
   refine HM.out.mono ?_;rintro r w1 ⟨rfl,hc,hb⟩;have HB:=Ld hb;clear hb;go_wp2_with fail
   exact ⟨rfl,⟨λh=>absurd h HH.out,λ_=>rfl⟩,HB.out⟩
theorem Q8 (x:Value)(k:Int)(w:World)(hg:Yy w):Calls Tryz.prog 114 #[x,Yh k] w λr w'=>((k=0->r=.returned x)/\(k≠0->r=.panicked (noV k)))/\RowKit.Below w.heap.size w w':=by
 by_cases h0:k=0
 . have HH:=Ld h0;have HN:=Ld (Znm ⟨w.heap.size,0,none⟩ (w.alloc (.cells #[.int .i64 0] 96)));have e:Yh k=.nilIface:=by rw [h0];rfl
   rw [e];clear h0 e hg;go_enter Tryz.func114,Tryz.ntmps114
   go_wp2_with fail
   refine HN.out.mono ?_;rintro r w1 ⟨rfl,rfl⟩;go_wp2_with fail
   go_ret
   exact ⟨⟨λ_=>rfl,λh=>absurd HH.out h⟩,by (repeat (first | assumption | exact bR | apply bD | apply Za | refine bA ?_ _))⟩
 . have HH:=Ld h0;have HM:=Ld (Zhz k w hg);rw [Uh h0];clear h0 hg;go_enter Tryz.func114,Tryz.ntmps114
   go_wp2_with fail
   refine HM.out.mono ?_;rintro r w1 ⟨rfl,hc,hb⟩;have HB:=Ld hb;clear hb;go_wp2_with fail
   exact ⟨rfl,⟨λh=>absurd h HH.out,λ_=>rfl⟩,HB.out⟩
theorem Zji (x:Value)(k:Int)(w:World)(hg:Yy w):Calls Tryz.prog 118 #[x,Yh k] w λr w'=>((k=0->r=.returned x)/\(k≠0->r=.panicked (noV k)))/\RowKit.Below w.heap.size w w':=by
 by_cases h0:k=0
 . have HH:=Ld h0;have HN:=Ld (Znm ⟨w.heap.size,0,none⟩ (w.alloc (.cells #[.int .i64 0] 96)));have e:Yh k=.nilIface:=by rw [h0];rfl
   rw [e];clear h0 e hg;go_enter Tryz.func118,Tryz.ntmps118
   go_wp2_with fail
   refine HN.out.mono ?_;rintro r w1 ⟨rfl,rfl⟩;go_wp2_with fail
   go_ret
   exact ⟨⟨λ_=>rfl,λh=>absurd HH.out h⟩,by (repeat (first | assumption | exact bR | apply bD | apply Za | refine bA ?_ _))⟩
 . have HH:=Ld h0;have HM:=Ld (Zhz k w hg);rw [Uh h0];clear h0 hg;go_enter Tryz.func118,Tryz.ntmps118
   go_wp2_with fail
   refine HM.out.mono ?_;rintro r w1 ⟨rfl,hc,hb⟩;have HB:=Ld hb;clear hb;go_wp2_with fail
   exact ⟨rfl,⟨λh=>absurd h HH.out,λ_=>rfl⟩,HB.out⟩
theorem Zqo (x:Value)(k:Int)(w:World)(hg:Yy w):Calls Tryz.prog 147 #[x,Yh k] w λr w'=>((k=0->r=.returned x)/\(k≠0->r=.panicked (noV k)))/\RowKit.Below w.heap.size w w':=by
 by_cases h0:k=0
 . have HH:=Ld h0;have HN:=Ld (Znm ⟨w.heap.size,0,none⟩ (w.alloc (.cells #[.int .i64 0] 96)));have e:Yh k=.nilIface:=by rw [h0];rfl
   rw [e];clear h0 e hg;go_enter Tryz.func147,Tryz.ntmps147
   go_wp2_with fail
   refine HN.out.mono ?_;rintro r w1 ⟨rfl,rfl⟩;go_wp2_with fail
   go_ret
   exact ⟨⟨λ_=>rfl,λh=>absurd HH.out h⟩,by (repeat (first | assumption | exact bR | apply bD | apply Za | refine bA ?_ _))⟩
 . have HH:=Ld h0;have HM:=Ld (Zhz k w hg);rw [Uh h0];clear h0 hg;go_enter Tryz.func147,Tryz.ntmps147
   go_wp2_with fail
   refine HM.out.mono ?_;rintro r w1 ⟨rfl,hc,hb⟩;have HB:=Ld hb;clear hb;go_wp2_with fail
   exact ⟨rfl,⟨λh=>absurd h HH.out,λ_=>rfl⟩,HB.out⟩
theorem Um (b o n c:Nat)(h:0 < n)(W:World):(Instr.indexAt 100 (.slice (some ⟨b,o,none⟩) n c) (.int .i64 0)).run Tryz.prog W=.ok (.pointer (some ⟨b,o,none⟩)) W:=by
 have h0:(0:Int) < (n:Int):=by omega
 go_simp
structure Z57 (b o:Nat)(x:Nd)(W:World):Prop where
 s2:W.cell? ⟨b,o+2,none⟩=some (.string x.s)
 s3:W.cell? ⟨b,o+3,none⟩=some (.string x.t)
theorem Zjp (v:List Nd)(A:Option Addr)(c:Nat)(w:World)(hv:Yr v A c w):Calls Tryz.prog 145 #[.slice A v.length c] w λr w'=>r=.returned (.agg #[.string (udH v).ty,.string (udH v).id])/\RowKit.Below w.heap.size w w':=by
 obtain ⟨x,xr,b,o,hx,rfl,hb,⟨-,-,x2,x3⟩,-,-,-,hu,hl⟩:=hv.head;have hl':(0:Int) < (v.length:Int):=by omega
 rw [hu];have hia:=Um b o v.length c hl;clear hv hx hu hl;have hb0:RowKit.Below w.heap.size w (w.alloc (.cells #[.string ⟨#[]⟩,.string ⟨#[]⟩] 34)):=by (repeat (first | assumption | exact bR | apply bD | apply Za | refine bA ?_ _))
 have e2:=(hb0.cell (p:=⟨b,o+2,none⟩) hb).trans x2;have e3:=(hb0.cell (p:=⟨b,o+3,none⟩) hb).trans x3;clear x2 x3;go_enter Tryz.func145,Tryz.ntmps145
 go_wp2_with fail
 refine Yg (S:=Z57 b o x) [false,false,false,false,false,false,false,false,false,true] (by kernel_rfl) (by kernel_rfl) (λ_ _ _ _ _ h=>h) ⟨e2,e3⟩ (λhW'=>?_);simp only [List.zip_cons_cons,List.zip_nil_left];(repeat ((first | (refine Ze (v:=?_) (by rfl) ?_ ?_;rotate_left;(focus (intro W hW;obtain ⟨s2,s3⟩:=hW;go_simp;try with_reducible rfl))) | refine Zd (by rfl) ?_);simp only [Act.put,pA,pB,pC]))
 refine Zc (λK hK=>?_);go_simp
 have hb1:RowKit.Below w.heap.size w (w.alloc (.cells #[.string x.s,.string x.t] 34)).drew:=by (repeat (first | assumption | exact bR | apply bD | apply Za | refine bA ?_ _))
 have f2:=(hb1.cell (p:=⟨b,o+2,none⟩) hb).trans ((hb0.cell (p:=⟨b,o+2,none⟩) hb).symm.trans e2);have f3:=(hb1.cell (p:=⟨b,o+3,none⟩) hb).trans ((hb0.cell (p:=⟨b,o+3,none⟩) hb).symm.trans e3);refine hK _ _ ⟨f2,f3⟩ ?_;clear hK K;refine Yj ?_;go_wp2_with fail
 exact bodyPost_ret (v:=.agg #[.string x.s,.string x.t]) (by simp [results,Tryz.results145,go_sem]) rfl ⟨rfl,hb1⟩
end Go.Proofs.YtpheiojmcafolaaGreatDoor
namespace Go.Proofs.YtpheiojmcafolaaGreatDoor
open Go.RowKit Go.Sort Go.Maps
structure InS (b0:Nat)(a:Ud)(W:World):Prop where
 s0:W.cell? ⟨b0,0,none⟩=some (.string a.ty)
 s1:W.cell? ⟨b0,1,none⟩=some (.string a.id)
theorem Z2b {w:World}{A:Option Addr}{hs:List Eh}{es:List En}(hI:Jg w A hs es)(h:Ym es=0):es.length<=16/\(hs.map Eh.u).Nodup/\∀e∈es,e.up.length<=6:=by
 unfold Ym at h;by_cases h16:16 < es.length
 . rw [if_pos h16] at h;omega
 . rw [if_neg h16] at h;by_cases hf:fnz (Uj es) es.length=0
   . have hz:=Zbr hf;refine ⟨by omega,?_,λe he=>?_⟩
     . have:=Zdq es.length hz;rw [List.take_of_length_le (nL _)] at this;rw [Zc4 hI.ens];exact this
     . obtain ⟨i,hi⟩:=List.mem_iff_getElem?.1 he;exact Zk6 (Zbj hi (hz i (List.getElem?_eq_some_iff.1 hi).1)).2.2
   . rw [if_pos hf] at h;exact absurd h hf
theorem Z4f (hs:List Eh)(es:List En)(a b:Ud)(A:Option Addr)(c:Nat)(w:World)(hI:Jg w A hs es)(hc:hs.length<=c)(ha:Za2 a)(hb:Za2 b) :
 Calls Tryz.prog 64 #[.slice A hs.length c,.agg #[.string a.ty,.string a.id],.agg #[.string b.ty,.string b.id]] w λr w'=>r=.returned (.tuple #[.bool (if Ym es=0 then inB es a b else false),Yh (Ym es)])/\RowKit.Below w.heap.size w w':=by
 have HI:=Ld hI;obtain ⟨w0,hw0⟩:∃w0,(w.alloc (.cells #[.string a.ty,.string a.id] 34)).alloc (.cells #[.string b.ty,.string b.id] 34)=w0:=⟨_,rfl⟩;have hb0:RowKit.Below w.heap.size w w0:=by rw [<-hw0];(repeat (first | assumption | exact bR | apply bD | apply Za | refine bA ?_ _))
 have hz0:w0.heap.size=w.heap.size+2:=by rw [<-hw0];simp
 have a0:w0.cell? ⟨w.heap.size,0,none⟩=some (.string a.ty):=by rw [<-hw0,World.cell?_alloc_lt _ _ ⟨w.heap.size,0,none⟩ (by simp)];simp [World.cell?_alloc_new]
 have a1:w0.cell? ⟨w.heap.size,1,none⟩=some (.string a.id):=by rw [<-hw0,World.cell?_alloc_lt _ _ ⟨w.heap.size,1,none⟩ (by simp)];simp [World.cell?_alloc_new]
 have b0:w0.cell? ⟨w.heap.size+1,0,none⟩=some (.string b.ty):=by rw [<-hw0];simp [go_sem]
 have b1:w0.cell? ⟨w.heap.size+1,1,none⟩=some (.string b.id):=by rw [<-hw0];simp [go_sem]
 have HC:=Ld (Ul hs es A c w0 (hI.later hb0) hc);have HW0:=Ld hw0;have hlt0:w.heap.size+1 < w0.heap.size:=by omega
 clear hI hw0 hz0;have hmm:=@run_makeMap Tryz.prog;by_cases he:Ym es=0
 . have te:(Ym es != 0)=false:=by simp [he]
   have HE:=Ld he;rw [if_pos he];clear he;go_enter Tryz.func64,Tryz.ntmps64
   go_wp2_with fail
   rw [HW0.out];refine HC.out.mono ?_;rintro r w1 ⟨rfl,hb1⟩;have hz1:=hb1.size;have d0:=(hb1.cell (p:=⟨w.heap.size,0,none⟩) (by show w.heap.size < _;omega)).trans a0;have d1:=(hb1.cell (p:=⟨w.heap.size,1,none⟩) (by show w.heap.size < _;omega)).trans a1;have f0:=(hb1.cell (p:=⟨w.heap.size+1,0,none⟩) hlt0).trans b0;have f1:=(hb1.cell (p:=⟨w.heap.size+1,1,none⟩) hlt0).trans b1;have hw1:RowKit.Below w.heap.size w w1:=hb0.trans (hb1.mono hb0.size);clear hb1 a0 a1 b0 b1;obtain ⟨w2,hr2,hM2,hg2⟩:=Zsw (Zo7 w1) ha (by simp);have hg12:RowKit.Below w1.heap.size w1 w2:=RowKit.Below.grown (w:=w1.alloc (.map #[] 0)) (by (repeat (first | assumption | exact bR | apply bD | apply Za | refine bA ?_ _))) hg2 (by simp) (λj hj=>by injection hj with hj;omega);have hz2:w1.heap.size < w2.heap.size:=hM2.lt;have k0:=(hg12.cell (p:=⟨w.heap.size,0,none⟩) (by show w.heap.size < _;omega)).trans d0;have k1:=(hg12.cell (p:=⟨w.heap.size,1,none⟩) (by show w.heap.size < _;omega)).trans d1;have j0:=(hg12.cell (p:=⟨w.heap.size+1,0,none⟩) (by show w.heap.size+1 < _;omega)).trans f0;have j1:=(hg12.cell (p:=⟨w.heap.size+1,1,none⟩) (by show w.heap.size+1 < _;omega)).trans f1;have HM2:Hid (Kg w2 w1.heap.size [a]):=hM2;have hw2:RowKit.Below w.heap.size w w2:=hw1.trans (hg12.mono (by omega));have HW2:=Ld hw2;have HI2:=Ld ((HI.out.later hw2).later (w':=w2.drew) (by (repeat (first | assumption | exact bR | apply bD | apply Za | refine bA ?_ _))));obtain ⟨g1,g2,g3⟩:=Z2b HI.out HE.out;have HLN:Hid (hs.length=es.length):=HI.out.ens.len;have HUP:=Ld g3;have HST:=Ld (Zh0 hs A c w2.drew (by have:=HLN.out;omega) HI2.out.sl (λh hh=>by
    have h1:h.u∈es.map En.u:=(by rw [<-Zc4 HI.out.ens];exact List.mem_map.2 ⟨h,hh,rfl⟩);obtain ⟨e,he,h2⟩:=List.mem_map.1 h1;rw [<-h2];exact Zak (HI.out.uz e he)) g2)
   have m0:(w1.alloc (.map #[] 0)).cell? ⟨w.heap.size,0,none⟩=some (.string a.ty):=(World.cell?_alloc_lt _ _ ⟨w.heap.size,0,none⟩ (by show w.heap.size < _;omega)).trans d0;have m1:(w1.alloc (.map #[] 0)).cell? ⟨w.heap.size,1,none⟩=some (.string a.id):=(World.cell?_alloc_lt _ _ ⟨w.heap.size,1,none⟩ (by show w.heap.size < _;omega)).trans d1;clear hM2 hg2 hg12 g2 g3 d0 d1 f0 f1;go_wp2_with fail
   refine Zg (S:=InS w.heap.size a) [(0,false),(2,false),(3,false),(1,true),(4,true)] (by kernel_rfl) (by kernel_rfl) (λ_ _ _ _ _ h=>h) ⟨k0,k1⟩ (λhW'=>?_);simp only [Yl,List.filterMap_cons,List.filterMap_nil,List.getElem?_cons_zero,List.getElem?_cons_succ,Option.map_some];(repeat ((first | (refine Ze (v:=?_) (by rfl) ?_ ?_;rotate_left;(focus (intro W hW;obtain ⟨s0,s1⟩:=hW;go_simp;try with_reducible rfl))) | refine Zd (by rfl) ?_);simp only [Act.put,pA,pB,pC]))
   refine Zc (λK hK=>?_);go_simp
   refine HST.out.mono ?_;rintro r w3 ⟨sb,rfl,hsb,hst,hb3'⟩;have hb3:=Ya hb3';have hsb':w2.heap.size<=sb:=hsb;obtain ⟨hcc3,-⟩:=Xi hb3;refine hK _ _ ⟨(hcc3 _ _ (by omega)).trans k0,(hcc3 _ _ (by omega)).trans k1⟩ ?_;clear hK K;have p0:=(hcc3 _ 0 (by omega:w.heap.size < w2.heap.size)).trans k0;have p1:=(hcc3 _ 1 (by omega:w.heap.size < w2.heap.size)).trans k1;have q0:=(hcc3 _ 0 (by omega:w.heap.size+1 < w2.heap.size)).trans j0;have q1:=(hcc3 _ 1 (by omega:w.heap.size+1 < w2.heap.size)).trans j1;have HM3:Hid (Kg w3 w1.heap.size [a]):=HM2.out.kept (row:=none) ⟨hb3.os,hb3.tape,hb3.output,hb3.size,λk hk _=>hb3.block k hk⟩ (by simp);have hw3:RowKit.Below w.heap.size w w3:=HW2.out.trans (hb3.mono (by omega));have hsb3:=hst.lt;have hum:=Zle g1 HUP.out [a];have HAB:=Ld (Zgb es (λp hp=>by obtain ⟨e,he,h⟩:=List.mem_flatMap.1 hp;exact Zak (HI.out.pz e he p h)) 100 hs a [a] w3 w.heap.size sb w1.heap.size
    ⟨hst,HM3.out,HI.out.ens.below hw3,by omega,by omega,by omega⟩ ha (by omega) (by simp;omega))
   clear hst hum hb3' hcc3 k0 k1 j0 j1;(repeat ((first | (refine Ze (v:=?_) (by rfl) ?_ ?_;rotate_left;(focus (intro W hW;obtain ⟨s0,s1⟩:=hW;go_simp;try with_reducible rfl))) | refine Zd (by rfl) ?_);simp only [Act.put,pA,pB,pC]))
   refine Zc (λK hK=>?_);go_simp
   refine HAB.out.mono ?_;rintro r w4 ⟨rfl,hM4,hg4⟩;have hz3:=hb3.size;have r0:w4.cell? ⟨w.heap.size,0,none⟩=w3.cell? ⟨w.heap.size,0,none⟩:=World.cell?_of_block (a:=⟨w.heap.size,0,none⟩) (hg4.block w.heap.size (by omega) (by intro e;injection e with e;omega));have r1:w4.cell? ⟨w.heap.size,1,none⟩=w3.cell? ⟨w.heap.size,1,none⟩:=World.cell?_of_block (a:=⟨w.heap.size,1,none⟩) (hg4.block w.heap.size (by omega) (by intro e;injection e with e;omega));have HN4:Hid (w4.cell? ⟨w.heap.size,0,none⟩=some (.string a.ty)/\w4.cell? ⟨w.heap.size,1,none⟩=some (.string a.id)):=⟨r0.trans p0,r1.trans p1⟩;refine hK _ _ ⟨HN4.out.1,HN4.out.2⟩ ?_;clear hK K;refine Yj ?_;have u0:w4.cell? ⟨w.heap.size+1,0,none⟩=some (.string b.ty):=(World.cell?_of_block (a:=⟨w.heap.size+1,0,none⟩) (hg4.block (w.heap.size+1) (by omega) (by intro e;injection e with e;omega))).trans q0;have u1:w4.cell? ⟨w.heap.size+1,1,none⟩=some (.string b.id):=(World.cell?_of_block (a:=⟨w.heap.size+1,1,none⟩) (hg4.block (w.heap.size+1) (by omega) (by intro e;injection e with e;omega))).trans q1;have hlk:=Zi9 hM4 hb;have hw4:RowKit.Below w.heap.size w w4:=hw3.grown hg4 (by omega) (λj hj=>by injection hj with hj;omega);have HV:Hid (inB es a b=decide (b∈abv es 100 a [a])):=rfl;clear hM4 hg4 q0 q1 r0 r1 HN4;by_cases hm:b∈abv es 100 a [a]
   . rw [if_pos hm] at hlk;have HVV:Hid (inB es a b=true):=(by show _=_;rw [HV.out,decide_eq_true hm]);clear hm HV;go_wp2_with fail
     go_ret2
     rw [HE.out,HVV.out];exact ⟨rfl,hw4⟩
   . rw [if_neg hm] at hlk;have HVV:Hid (inB es a b=false):=(by show _=_;rw [HV.out,decide_eq_false hm]);clear hm HV;go_wp2_with fail
     go_ret2
     rw [HE.out,HVV.out];exact ⟨rfl,hw4⟩
 . have te:(Ym es != 0)=true:=by simp [he]
   rw [if_neg he];generalize Ym es=k at HC te ⊢;clear he;go_enter Tryz.func64,Tryz.ntmps64
   go_wp2_with fail
   rw [HW0.out];refine HC.out.mono ?_;rintro r w1 ⟨rfl,hb1⟩;have hw1:RowKit.Below w.heap.size w w1:=hb0.trans (hb1.mono hb0.size);clear hb1 a0 a1 b0 b1;go_wp2_with fail
   go_ret2
   exact ⟨rfl,hw1⟩
end Go.Proofs.YtpheiojmcafolaaGreatDoor
namespace Go.Proofs.YtpheiojmcafolaaGreatDoor
open Go.RowKit Go.Sort
structure Evl where
 es:List En
 hs:List Eh
 Ea:Option Addr
 ec:Nat
 q:Rq
 qa:Option Addr
 qc:Nat
 e:List Nd
 ea:Option Addr
 eca:Nat
def Evl.cells (x:Evl)(i:Nat):Array Value:=#[.slice x.Ea x.hs.length x.ec,.string x.q.who.ty,.string x.q.who.id,.string x.q.act.ty,.string x.q.act.id,.string x.q.what.ty,.string x.q.what.id,.slice x.qa x.q.ctx.length x.qc,.slice x.ea x.e.length x.eca,.int .i64 i]
structure V0 (x:Evl)(B:Nat)(w:World):Prop where
 sl:Zz8 w B x.Ea x.hs
 ens:Ens w B x.hs x.es
 uz:∀e∈x.es,Km e.u
 pz:∀e∈x.es,∀p∈e.up,Km p
 az:∀e∈x.es,Y0 e.at_
 ai:∀e∈x.es,NdI e.at_
 ec:x.hs.length<=x.ec
 ok:Ym x.es=0
 ctx:Ye w B x.qa x.q.ctx
 qc:x.q.ctx.length<=x.qc/\x.qc<=9223372036854775807
 qk:Y0 x.q.ctx
 qi:NdI x.q.ctx
 qv:Vr x.q=0
 qz:Km x.q.who/\Km x.q.act/\Km x.q.what
 ex:Ye w B x.ea x.e
 eca:x.e.length<=x.eca/\x.eca<=9223372036854775807
 ek:Y0 x.e
 ei:NdI x.e
 el:x.e.length<=200
 err:Yy w
 errB:0 < B
theorem V0.keep {x:Evl}{B:Nat}{w w':World}(h:V0 x B w)(hb:RowKit.Below B w w'):V0 x B w':=
 ⟨h.sl.below hb,h.ens.below hb,h.uz,h.pz,h.az,h.ai,h.ec,h.ok,h.ctx.below hb,h.qc,h.qk,h.qi,h.qv,h.qz,h.ex.below hb,h.eca,h.ek,h.ei,h.el,h.err.below hb h.errB,h.errB⟩
theorem V0.ents {x:Evl}{B:Nat}{w:World}(h:V0 x B w)(hB:B<=w.heap.size):Jg w x.Ea x.hs x.es:=⟨h.sl.more hB,h.ens.more hB,h.uz,h.pz,h.az⟩
theorem Zkt {es:List En}(h:Ym es=0):es.length<=16/\∀e∈es,Zw e.u=0/\Zb e.at_=0/\opH e.at_=6:=by
 unfold Ym at h;by_cases h16:16 < es.length
 . rw [if_pos h16] at h;omega
 . rw [if_neg h16] at h;by_cases hf:fnz (Uj es) es.length=0
   . have hz:=Zbr hf;refine ⟨by omega,λe he=>?_⟩;obtain ⟨i,hi⟩:=List.mem_iff_getElem?.1 he;obtain ⟨h1,_,h3⟩:=Zbj hi (hz i (List.getElem?_eq_some_iff.1 hi).1);refine ⟨h1,?_⟩;unfold Vu at h3;split at h3
     . omega
     . split at h3
       . rename_i h4;exact absurd h3 h4
       . split at h3
         . rename_i h4;exact absurd h3 h4
         . rename_i h4;split at h3
           . rename_i h5;exact ⟨Classical.not_not.1 h4,h5⟩
           . omega
   . rw [if_pos hf] at h;exact absurd h hf
def Z18 (w:World)(r:Ending)(w':World)(q:Rs (Option (List Nd))):Prop:=
 (∀v,q=.ok (some v)->∃A c,r=.returned (.slice A v.length c)/\Yr v A c w'/\NdI v)/\(q=.ok none->r=.returned (.slice none 0 0))/\(∀k,q=.bad k->r=.panicked (noV k))/\RowKit.Below w.heap.size w w'
structure Z53 (b0 bv ov:Nat)(h:Eh)(x:Nd)(w0 W:World):Prop where
 s0:W.cell? ⟨b0,0,none⟩=some (.string h.u.ty)
 s1:W.cell? ⟨b0,1,none⟩=some (.string h.u.id)
 bel:RowKit.Below w0.heap.size w0 W
theorem Zge (x:Evl)(xb i:Nat)(v:List Nd)(A:Option Addr)(c:Nat)(w:World)(hx:V0 x xb w)(hB:Blk w xb 99 (x.cells i))(hv:Yr v A c w)(hvi:NdI v) :
 Calls Tryz.prog 116 #[.pointer (some ⟨xb,0,none⟩),.slice A v.length c] w λr w'=>Z18 w r w' (K8 x.es v):=by
 have HX:=Ld hx;have HV:=Ld hv;have HVI:=Ld hvi;have hxb:=hB.lt;have c0:w.cell? ⟨xb,0,none⟩=some (.slice x.Ea x.hs.length x.ec):=hB.cell 0;have HIS:=Ld (λop=>Zmr v op A c w hv);have hlen:=hx.ens.len;obtain ⟨h16,hvs⟩:=Zkt hx.ok;have HVS:=Ld hvs;have hhl:x.hs.length<=16:=by omega
 obtain ⟨q,hq⟩:∃q,K8 x.es v=q:=⟨_,rfl⟩;rw [hq];have HQ:=Ld hq;have HLN:=Ld hlen;clear hx hv hvi hB hq hlen h16 hvs;by_cases h6:opH v=6
 . have t6:(opH v==6)=true:=by simp [h6]
   have HR:Hid (q=.ok (some v)):=by show _=_;rw [<-HQ.out];unfold K8;rw [if_pos h6]
   have HI6:=Ld (HIS.out 6);rw [t6] at HI6;clear h6 t6;go_enter Tryz.func116,Tryz.ntmps116
   go_wp2_with fail
   refine HI6.out.mono ?_;rintro r w1 ⟨rfl,rfl⟩;go_wp2_with fail
   go_ret
   rw [HR.out];exact ⟨λu hu=>by injection hu with hu;injection hu with hu;subst hu;exact ⟨A,c,rfl,HV.out,HVI.out⟩,λh=>(by (cases h)),λk h=>(by (cases h)),RowKit.Below.refl _ _⟩
 . have t6:(opH v==6)=false:=by simp [h6]
   have HI6:=Ld (HIS.out 6);rw [t6] at HI6;by_cases h4:opH v=4
   . have t4:(opH v==4)=true:=(by simp [h4]);have HI4:=Ld (HIS.out 4);rw [t4] at HI4;have HR:Hid (q=.ok ((x.es.find? λe=>decide (e.u=udH v)).map En.at_)):=(by show _=_;rw [<-HQ.out];unfold K8;rw [if_neg h6,if_pos h4]);clear h6 t6 h4 t4;go_enter Tryz.func116,Tryz.ntmps116
     go_wp2_with fail
     refine HI6.out.mono ?_;rintro r w1 ⟨rfl,rfl⟩;go_wp2_with fail
     refine HI4.out.mono ?_;rintro r w2 ⟨rfl,rfl⟩;go_wp2_with fail
     go_loopw [21] (λkk wr=>∃k:Nat,kk=.int .i64 k/\k<=x.hs.length/\Hid (∀e∈x.es.take k,¬e.u=udH v)/\RowKit.Below w2.heap.size w2 wr) (λkk _=>x.hs.length - (intOf kk).toNat)
     case atStart=>exact ⟨0,rfl,by omega,by simp [Hid],RowKit.Below.refl _ _⟩
     case round=>
      obtain ⟨k,rfl,hk,HK,hbr⟩:=hrel;have hzr:=hbr.size;by_cases hlt:k < x.hs.length
      . obtain ⟨⟨hu0,ua,un,uc,aa,an,ac⟩,hx⟩:∃y,x.hs[k]? = some y:=⟨_,gE hlt⟩;obtain ⟨e,he⟩:∃e,x.es[k]? = some e:=⟨_,gE (by have:=HLN.out;omega)⟩;have hXr:=HX.out.keep (hbr.mono (Nat.le_of_lt hxb));have hok:=(hXr.ens.at_ k _ e hx he);obtain ⟨b1,o1,hEa,hb1,d0,d1,d2,d3⟩:=Zc7 hXr.sl hx;simp only at d0 d1 d2 d3;rw [hEa] at c0 ⊢;have hue:hu0=e.u:=hok.u;subst hue;have HE:=Ld he;have HOK:=Ld hok;have HXR:=Ld hXr;have hw1:RowKit.Below wr.heap.size wr (wr.alloc (.cells #[.string e.u.ty,.string e.u.id,.slice ua un uc,.slice aa an ac] 109)):=(by (repeat (first | assumption | exact bR | apply bD | apply Za | refine bA ?_ _)));have HW1:=Ld hw1;have HVW:=Ld (HV.out.later hbr);have HUD:=Ld (λW (hW:RowKit.Below wr.heap.size wr W)=>Zjp v A c W (HVW.out.later hW));have ev0:(wr.alloc (.cells #[.string e.u.ty,.string e.u.id,.slice ua un uc,.slice aa an ac] 109)).cell? ⟨wr.heap.size,0,none⟩=some (.string e.u.ty):=(by simp [World.cell?_alloc_new]);have ev1:(wr.alloc (.cells #[.string e.u.ty,.string e.u.id,.slice ua un uc,.slice aa an ac] 109)).cell? ⟨wr.heap.size,1,none⟩=some (.string e.u.id):=(by simp [World.cell?_alloc_new]);have ev2:(wr.alloc (.cells #[.string e.u.ty,.string e.u.id,.slice ua un uc,.slice aa an ac] 109)).cell? ⟨wr.heap.size,3,none⟩=some (.slice aa an ac):=(by simp [World.cell?_alloc_new]);have heq:∀W,(binOp .eql 34 (.agg #[.string e.u.ty,.string e.u.id]) (.agg #[.string (udH v).ty,.string (udH v).id])).run Tryz.prog W=.ok (.bool (decide (e.u=udH v))) W:=λW=>Zsi e.u (udH v) W;have heq2:∀W,(Op.equalIn 10000 34 (.agg #[.string e.u.ty,.string e.u.id]) (.agg #[.string (udH v).ty,.string (udH v).id])).run Tryz.prog W=.ok (decide (e.u=udH v)) W:=λW=>Z0q e.u (udH v) W;have hsz:(wr.alloc (.cells #[.string e.u.ty,.string e.u.id,.slice ua un uc,.slice aa an ac] 109)).heap.size=wr.heap.size+1:=(by simp);have HSZ:=Ld hsz;clear hx he hok hXr hsz;cases hm:decide (e.u=udH v) with
        | true=>
         rw [hm] at heq heq2;have HM:=Ld hm;clear hm;go_wp2_with fail
         refine Yg (S:=Z53 wr.heap.size 0 0 ⟨e.u,ua,un,uc,aa,an,ac⟩ ⟨0,0,⟨#[]⟩,⟨#[]⟩⟩ wr) [false,false,false,true,false] (by kernel_rfl) (by kernel_rfl) (λ_ _ _ _ _ h=>h) ⟨ev0,ev1,HW1.out.drew⟩ (λhW'=>?_);simp only [List.zip_cons_cons,List.zip_nil_left];(repeat ((first | (refine Ze (v:=?_) (by rfl) ?_ ?_;rotate_left;(focus (intro W hW;obtain ⟨s0,s1,s2⟩:=hW;go_simp;try with_reducible rfl))) | refine Zd (by rfl) ?_);simp only [Act.put,pA,pB,pC]))
         refine Zc (λK hK=>?_);go_simp
         refine (HUD.out _ HW1.out.drew).mono ?_;rintro r w4 ⟨rfl,hb4'⟩;have hb4:=Ya hb4';obtain ⟨hcc4,-⟩:=Xi hb4;have hlt4:wr.heap.size < (wr.alloc (.cells #[.string e.u.ty,.string e.u.id,.slice ua un uc,.slice aa an ac] 109)).heap.size:=(by rw [HSZ.out];omega);have hw4:RowKit.Below wr.heap.size wr w4:=HW1.out.trans (hb4.mono HW1.out.size);refine hK _ _ ⟨(hcc4 _ _ hlt4).trans ev0,(hcc4 _ _ hlt4).trans ev1,hw4⟩ ?_;have e3:=(hcc4 _ 3 hlt4).trans ev2;clear hK K hcc4 hb4';(repeat ((first | (refine Ze (v:=?_) (by rfl) ?_ ?_;rotate_left;(focus (intro W hW;obtain ⟨s0,s1,s2⟩:=hW;go_simp;try with_reducible rfl))) | refine Zd (by rfl) ?_);simp only [Act.put,pA,pB,pC]))
         refine Yj ?_;clear hb4 hlt4;go_wp2_with fail
         go_ret
         have hfi:x.es.find? (λe=>decide (e.u=udH v))=some e:=by
          have h1:x.es=x.es.take k++e :: x.es.drop (k+1):=by
           have h2:=(List.getElem?_eq_some_iff.1 HE.out).1;have h3:=(List.getElem?_eq_some_iff.1 HE.out).2;rw [<-h3,<-List.drop_eq_getElem_cons h2,List.take_append_drop]
          rw [h1,List.find?_append,List.find?_eq_none.2 (λy hy=>by simpa using HK.out y hy)];simp only [Option.none_or];have:=HM.out;simp only [decide_eq_true_eq] at this;simp [this]
         have hw5:RowKit.Below w2.heap.size w2 w4:=hbr.trans (hw4.mono hzr);rw [HR.out,hfi];have hem:=mG HE.out;refine ⟨λu hu=>?_,λh=>(by cases h),λk h=>(by cases h),hw5⟩;have hu':e.at_=u:=(by simpa using hu);subst hu';have hOK:=HOK.out.below (HW1.out.mono (by omega));have han:an=e.at_.length:=HOK.out.an;subst han;refine ⟨aa,ac,rfl,⟨(HVS.out e hem).2.1,HX.out.az e hem,HOK.out.ac.1,HOK.out.ac.2,?_⟩,HX.out.ai e hem⟩;exact (HOK.out.at_.below (hw4.mono (by omega))).more (by have:=hw4.size;omega)
        | false=>
         rw [hm] at heq heq2;have HM:=Ld hm;clear hm;go_wp2_with fail
         refine Yg (S:=Z53 wr.heap.size 0 0 ⟨e.u,ua,un,uc,aa,an,ac⟩ ⟨0,0,⟨#[]⟩,⟨#[]⟩⟩ wr) [false,false,false,true,false] (by kernel_rfl) (by kernel_rfl) (λ_ _ _ _ _ h=>h) ⟨ev0,ev1,HW1.out.drew⟩ (λhW'=>?_);simp only [List.zip_cons_cons,List.zip_nil_left];(repeat ((first | (refine Ze (v:=?_) (by rfl) ?_ ?_;rotate_left;(focus (intro W hW;obtain ⟨s0,s1,s2⟩:=hW;go_simp;try with_reducible rfl))) | refine Zd (by rfl) ?_);simp only [Act.put,pA,pB,pC]))
         refine Zc (λK hK=>?_);go_simp
         refine (HUD.out _ HW1.out.drew).mono ?_;rintro r w4 ⟨rfl,hb4'⟩;have hb4:=Ya hb4';obtain ⟨hcc4,-⟩:=Xi hb4;have hlt4:wr.heap.size < (wr.alloc (.cells #[.string e.u.ty,.string e.u.id,.slice ua un uc,.slice aa an ac] 109)).heap.size:=(by rw [HSZ.out];omega);have hw4:RowKit.Below wr.heap.size wr w4:=HW1.out.trans (hb4.mono HW1.out.size);refine hK _ _ ⟨(hcc4 _ _ hlt4).trans ev0,(hcc4 _ _ hlt4).trans ev1,hw4⟩ ?_;clear hK K hcc4 hb4';(repeat ((first | (refine Ze (v:=?_) (by rfl) ?_ ?_;rotate_left;(focus (intro W hW;obtain ⟨s0,s1,s2⟩:=hW;go_simp;try with_reducible rfl))) | refine Zd (by rfl) ?_);simp only [Act.put,pA,pB,pC]))
         refine Yj ?_;clear hb4 hlt4;have HK2:Hid (∀e'∈x.es.take (k+1),¬e'.u=udH v):=by
          intro e' he';rw [List.take_add_one,HE.out] at he';rcases List.mem_append.1 he' with h | h
          . exact HK.out e' h
          . simp at h;subst h;have:=HM.out;simpa using this
         have hw5:RowKit.Below w2.heap.size w2 w4:=hbr.trans (hw4.mono hzr);go_wp2_with fail
         exact ⟨⟨k+1,by go_num,by omega,HK2,hw5⟩,by simp [intOf];omega⟩
      . have HN:Hid (x.es.find? (λe=>decide (e.u=udH v))=none):=by
         show _=_;rw [List.find?_eq_none];intro e he;have:=HK.out e (by rw [List.take_of_length_le (by have:=HLN.out;omega)];exact he);simpa using this
        go_wp2_with fail
        go_ret
        rw [HR.out,HN.out];exact ⟨λu hu=>by (cases hu),λ_=>rfl,λk h=>by (cases h),hbr⟩
   . have t4:(opH v==4)=false:=(by simp [h4]);have HI4:=Ld (HIS.out 4);rw [t4] at HI4;have HR:Hid (q=.bad 2):=(by show _=_;rw [<-HQ.out];unfold K8;rw [if_neg h6,if_neg h4]);clear h6 t6 h4 t4;go_enter Tryz.func116,Tryz.ntmps116
     go_wp2_with fail
     refine HI6.out.mono ?_;rintro r w1 ⟨rfl,rfl⟩;go_wp2_with fail
     refine HI4.out.mono ?_;rintro r w2 ⟨rfl,rfl⟩;go_wp2_with fail
     rw [HR.out];exact ⟨rfl,λu hu=>by (cases hu),λh=>by (cases h),λk h=>(by injection h with h;rw [<-h];rfl),RowKit.Below.refl _ _⟩
end Go.Proofs.YtpheiojmcafolaaGreatDoor
namespace Go.Proofs.YtpheiojmcafolaaGreatDoor
theorem Zb0 (p:List (Option UInt8)):Y7 (none :: p) []=Y7 p []:=by rw [Y7]
theorem Zgv (p:List (Option UInt8))(c:UInt8)(s:List UInt8):Y7 (none :: p) (c :: s)=(Y7 p (c :: s) || Y7 (none :: p) s):=by rw [Y7]
theorem Kz (b:UInt8)(p:List (Option UInt8))(c:UInt8)(s:List UInt8):Y7 (some b :: p) (c :: s)=(b==c && Y7 p s):=by rw [Y7]
theorem Zdf (b:UInt8)(p:List (Option UInt8)):Y7 (some b :: p) []=false:=by rw [Y7]
theorem Zhm (c:UInt8)(s:List UInt8):Y7 [] (c :: s)=false:=by rw [Y7]
theorem Zj5:Y7 [] []=true:=by rw [Y7]
theorem Ze3 (p:List (Option UInt8)):∀s:List UInt8,Y7 (none :: p) s=true ↔ ∃f,f<=s.length/\Y7 p (s.drop f)=true
 | []=>by
  rw [Zb0];constructor
  . intro h;exact ⟨0,by simp,by simpa using h⟩
  . rintro ⟨f,_,h⟩;simpa using h
 | c :: s=>by
  rw [Zgv,Bool.or_eq_true,Ze3 p s];constructor
  . rintro (h | ⟨f,h1,h2⟩)
    . exact ⟨0,by simp,by simpa using h⟩
    . exact ⟨f+1,by simpa using h1,by simpa using h2⟩
  . rintro ⟨f,h1,h2⟩;cases f with
    | zero=>exact .inl (by simpa using h2)
    | succ f=>exact .inr ⟨f,by simpa using h1,by simpa using h2⟩
def Zqc (p:List (Option UInt8))(s:List UInt8):Prop:=∃f,0 < f/\f<=s.length/\Y7 p (s.drop f)=true
theorem Zjn (p:List (Option UInt8))(s:List UInt8):Y7 (none :: p) s=true ↔ Y7 p s=true\/Zqc p s:=by
 rw [Ze3];constructor
 . rintro ⟨f,h1,h2⟩;rcases Nat.eq_zero_or_pos f with h | h
   . subst h;exact .inl (by simpa using h2)
   . exact .inr ⟨f,h,h1,h2⟩
 . rintro (h | ⟨f,_,h1,h2⟩)
   . exact ⟨0,by simp,by simpa using h⟩
   . exact ⟨f,h1,h2⟩
theorem Zx3 (p:List (Option UInt8))(c:UInt8)(s:List UInt8):Zqc p (c :: s) ↔ Y7 p s=true\/Zqc p s:=by
 constructor
 . rintro ⟨f,h0,h1,h2⟩;obtain ⟨g,rfl⟩:∃g,f=g+1:=⟨f - 1,by omega⟩;rcases Nat.eq_zero_or_pos g with h | h
   . subst h;exact .inl (by simpa using h2)
   . exact .inr ⟨g,h,by simpa using h1,by simpa using h2⟩
 . rintro (h | ⟨f,h0,h1,h2⟩)
   . exact ⟨1,by omega,by simp,by simpa using h⟩
   . exact ⟨f+1,by omega,by simpa using h1,by simpa using h2⟩
theorem Z52 (p:List (Option UInt8)):¬Zqc p []:=by
 rintro ⟨f,h0,h1,_⟩;simp at h1;omega
theorem Zs2:∀(Q R:List (Option UInt8)) (T:List UInt8),(∀x∈Q,x≠none)->Y7 (Q++R) T=true->Q.length<=T.length/\Y7 R (T.drop Q.length)=true
 | [],R,T,_,h=>⟨by simp,by simpa using h⟩
 | none :: Q,R,T,hq,_=>absurd rfl (hq none (by simp))
 | some b :: Q,R,[],hq,h=>by rw [List.cons_append,Zdf] at h;cases h
 | some b :: Q,R,c :: T,hq,h=>by
  rw [List.cons_append,Kz,Bool.and_eq_true] at h;obtain ⟨h1,h2⟩:=Zs2 Q R T (λx hx=>hq x (by simp [hx])) h.2;exact ⟨by simpa using h1,by simpa using h2⟩
structure Seg (Pst Pi:List (Option UInt8))(Sf Sj:List UInt8):Prop where
 ex:∃Q pre,Pst=Q++Pi/\(∀x∈Q,x≠none)/\Sf=pre++Sj/\pre.length=Q.length
theorem Seg.start (p:List (Option UInt8))(s:List UInt8):Seg p p s s:=⟨[],[],by simp,by simp,by simp,rfl⟩
theorem Seg.step {Pst Pi:List (Option UInt8)}{Sf Sj:List UInt8}{b c:UInt8}(h:Seg Pst (some b :: Pi) Sf (c :: Sj)):Seg Pst Pi Sf Sj:=by
 obtain ⟨Q,pre,rfl,h2,rfl,h4⟩:=h.ex;refine ⟨Q ++ [some b],pre ++ [c],by simp,?_,by simp,by simp [h4]⟩;intro x hx;rcases List.mem_append.1 hx with hx | hx
 . exact h2 x hx
 . simp at hx;subst hx;simp
theorem Seg.alt {Pst Pi:List (Option UInt8)}{Sf Sj:List UInt8}(h:Seg Pst Pi Sf Sj)(ha:Zqc Pst Sf):∃f,0 < f/\f<=Sj.length/\Y7 Pi (Sj.drop f)=true:=by
 obtain ⟨Q,pre,rfl,h2,rfl,h4⟩:=h.ex;obtain ⟨f,h0,h1,h3⟩:=ha;obtain ⟨g1,g2⟩:=Zs2 Q Pi _ h2 h3;rw [List.length_drop,List.length_append] at g1;rw [List.length_append] at h1;refine ⟨f,h0,by omega,?_⟩;rw [List.drop_drop,show f+Q.length=pre.length+f from by omega,<-List.drop_drop,List.drop_left' rfl] at g2;exact g2
theorem Zxx {Pst p:List (Option UInt8)}{Sf Sj:List UInt8}(h:Seg Pst (none :: p) Sf Sj)(ha:Zqc Pst Sf):Y7 p Sj=true\/Zqc p Sj:=by
 obtain ⟨f,h0,h1,h2⟩:=h.alt ha;rw [<-Zjn,Ze3];obtain ⟨g,h3,h4⟩:=(Ze3 p _).1 h2;rw [List.length_drop] at h3;exact ⟨f+g,by omega,by rw [<-List.drop_drop];exact h4⟩
theorem Zy6 {Pst Pi:List (Option UInt8)}{Sf:List UInt8}(h:Seg Pst Pi Sf []):¬Zqc Pst Sf:=by
 intro ha;obtain ⟨f,h0,h1,_⟩:=h.alt ha;simp at h1;omega
theorem Zgl:∀p:List (Option UInt8),Y7 p []=p.all λx=>x==none
 | []=>by rw [Zj5];rfl
 | none :: p=>by rw [Zb0,Zgl p];simp
 | some b :: p=>by rw [Zdf];simp
def Zlr (P:List (Option UInt8))(S:List UInt8)(i j:Nat)(sv:Int)(f:Nat):Prop:=
 (sv = -1/\f<=j/\Y7 P S=Y7 (P.drop i) (S.drop j)) \/
 (∃st:Nat,sv=st/\st < P.length/\f<=j/\Seg (P.drop (st+1)) (P.drop i) (S.drop f) (S.drop j)/\(Y7 P S=true ↔ Y7 (P.drop i) (S.drop j)=true\/Zqc (P.drop (st+1)) (S.drop f)))
theorem Zrc (P:List (Option UInt8))(S:List UInt8):Zlr P S 0 0 (-1) 0:=.inl ⟨rfl,nL _,rfl⟩
theorem K6 {α:Type}{l:List α}{i:Nat}{x:α}(h:l[i]? = some x):l.drop i=x :: l.drop (i+1):=by
 obtain ⟨h1,h2⟩:=List.getElem?_eq_some_iff.1 h;rw [List.drop_eq_getElem_cons h1,h2]
theorem Zwn {P:List (Option UInt8)}{S:List UInt8}{i j:Nat}{sv:Int}{f:Nat}(h:Zlr P S i j sv f)(hp:P[i]? = some none):Zlr P S (i+1) j (i:Int) j:=by
 have hi:=(List.getElem?_eq_some_iff.1 hp).1;have hd:=K6 hp;refine .inr ⟨i,rfl,hi,nL _,Seg.start _ _,?_⟩;rcases h with ⟨_,_,h⟩ | ⟨st,_,_,_,hs,h⟩
 . rw [h,hd,Zjn]
 . rw [h,hd,Zjn];constructor
   . rintro (h1 | h1)
     . exact h1
     . rw [hd] at hs;exact Zxx hs h1
   . exact .inl
theorem Zzt {P:List (Option UInt8)}{S:List UInt8}{i j:Nat}{sv:Int}{f:Nat}{c:UInt8}(h:Zlr P S i j sv f)(hp:P[i]? = some (some c))(hs:S[j]? = some c):Zlr P S (i+1) (j+1) sv f:=by
 have hd:=K6 hp;have hj:=K6 hs;have e:Y7 (P.drop i) (S.drop j)=Y7 (P.drop (i+1)) (S.drop (j+1)):=by rw [hd,hj,Kz];simp
 rcases h with ⟨h1,h2,h3⟩ | ⟨st,h1,h2,h3,h4,h5⟩
 . exact .inl ⟨h1,by omega,by rw [h3,e]⟩
 . refine .inr ⟨st,h1,h2,by omega,?_,by rw [h5,e]⟩;rw [hd,hj] at h4;exact h4.step
def Z23 (P:List (Option UInt8))(S:List UInt8)(i j:Nat):Prop:=(P[i]? = none\/∃b c,P[i]? = some (some b)/\S[j]? = some c/\b≠c)/\j < S.length
theorem Zk0 {P:List (Option UInt8)}{S:List UInt8}{i j:Nat}(h:Z23 P S i j):Y7 (P.drop i) (S.drop j)=false:=by
 obtain ⟨h1,hj⟩:=h;have hj':=K6 (gE hj);rcases h1 with h1 | ⟨b,c,h1,h2,h3⟩
 . rw [List.drop_eq_nil_of_le (List.getElem?_eq_none_iff.1 h1),hj',Zhm]
 . rw [K6 h1,K6 h2,Kz];simp [h3]
theorem Zku {P:List (Option UInt8)}{S:List UInt8}{i j:Nat}{st:Nat}{f:Nat}(h:Zlr P S i j (st:Int) f)(hm:Z23 P S i j):f < S.length/\st < P.length/\Zlr P S (st+1) (f+1) (st:Int) (f+1):=by
 have hk:=Zk0 hm;have hj:=hm.2;rcases h with ⟨h1,_⟩ | ⟨st',h1,h2,h3,h4,h5⟩
 . omega
 . obtain rfl:st=st':=by omega
   have hf:f < S.length:=by omega
   refine ⟨hf,h2,.inr ⟨st,rfl,h2,nL _,Seg.start _ _,?_⟩⟩;rw [h5,hk,K6 (gE hf),Zx3];simp
theorem Zs4 {P:List (Option UInt8)}{S:List UInt8}{i j:Nat}{sv:Int}{f:Nat}(h:Zlr P S i j sv f)(hm:Z23 P S i j)(hs:¬0<=sv):Y7 P S=false:=by
 have hk:=Zk0 hm;rcases h with ⟨_,_,h3⟩ | ⟨st,h1,_⟩
 . rw [h3,hk]
 . omega
theorem Zxz {P:List (Option UInt8)}{S:List UInt8}{i j:Nat}{sv:Int}{f:Nat}(h:Zlr P S i j sv f)(hj:S.length<=j):Y7 P S=(P.drop i).all λx=>x==none:=by
 have hd:S.drop j = []:=List.drop_eq_nil_of_le hj;rw [<-Zgl];rcases h with ⟨_,_,h3⟩ | ⟨st,h1,h2,h3,h4,h5⟩
 . rw [h3,hd]
 . rw [hd] at h4 h5;have:=Zy6 h4;rw [Bool.eq_iff_iff,h5];simp [this]
theorem Za6 {c:UInt8}{r:List UInt8}(h1:c≠42)(h2:c=92->r.head?≠some 42):Xv (c :: r)=some c :: Xv r:=by
 rw [Xv]
 . exact h1
 . intro r' e1 e2;exact h2 e1 (by rw [e2];rfl)
theorem Zk1 (r:List UInt8):Xv (42 :: r)=none :: Xv r:=by rw [Xv]
theorem Zo9 (r:List UInt8):Xv (92 :: 42 :: r)=some 42 :: Xv r:=by rw [Xv]
theorem Zeh:∀(n:Nat) (l:List UInt8),l.length<=n->(Xv l).length<=l.length
 | 0,[],_=>nL _
 | n+1,[],_=>nL _
 | n+1,c :: r,h=>by
  simp only [List.length_cons] at h;by_cases h1:c=42
  . subst h1;rw [Zk1,List.length_cons,List.length_cons];have:=Zeh n r (by omega);omega
  . by_cases h2:c=92/\r.head? = some 42
    . obtain ⟨rfl,h2⟩:=h2;cases r with
      | nil=>cases h2
      | cons d r=>
       injection h2 with h2;subst h2
       rw [Zo9,List.length_cons,List.length_cons,List.length_cons];simp only [List.length_cons] at h;have:=Zeh n r (by omega);omega
    . rw [Za6 h1 (λe hh=>h2 ⟨e,hh⟩),List.length_cons,List.length_cons];have:=Zeh n r (by omega);omega
end Go.Proofs.YtpheiojmcafolaaGreatDoor
namespace Go.Proofs.YtpheiojmcafolaaGreatDoor
open Go.RowKit Go.Sort
def sgC (x:Option UInt8):List Value:=match x with | none=>[.int .u8 0,.bool true] | some b=>[.int .u8 (b.toNat:Int),.bool false]
theorem Zg5:Kh sgC 2:=⟨λx=>by cases x <;> rfl,by omega,λx u hu=>by
 cases x <;> (simp only [sgC,List.mem_cons,List.not_mem_nil,or_false] at hu;rcases hu with rfl | rfl <;> rfl)⟩
abbrev Z5h:=SlG sgC 2
theorem Z2x:(Tryz.prog.info? 266).map (λi=>(i.zero,i.size,i.bytes))=some (some (.agg #[.int .u8 0,.bool false]),2,2):=by kernel_rfl
theorem Zg2 {w:World}{base:Nat}{e:TypeId}{v:Value}{n:Nat}{xs:List Value}(h:w.ownsRow base e 2 v n xs):∃A c,v=.slice A n c/\n<=c:=by
 rcases h.2 with ⟨hv,h0⟩ | ⟨g,cap,cur,hv,_,_,h1,_⟩
 . exact ⟨none,0,by rw [hv,h0],by omega⟩
 . exact ⟨some ⟨g,0,none⟩,cap,hv,h1⟩
def Z4c (w:World)(r:Ending)(w':World)(P:List (Option UInt8)):Prop:=
 ∃A c,r=.returned (.slice A P.length c)/\P.length<=c/\c<=9223372036854775807/\Z5h w' w'.heap.size A P/\RowKit.Below w.heap.size w w'
theorem Zuo (p:ByteArray)(w:World)(hp:p.size<=60):Calls Tryz.prog 144 #[.string p] w λr w'=>Z4c w r w' (Xv p.toList):=by
 obtain ⟨j0,hj,hy0,hy1,hy2⟩:=info_parts Z2x;go_enter Tryz.func144,Tryz.ntmps144
 go_wp2_with fail
 go_loopw [3,4] (λov iv wr=>∃(k:Nat) (dn:List (Option UInt8)),iv=.int .i64 k/\k<=p.size/\dn.length<=k/\Hid (dn++Xv (p.toList.drop k)=Xv p.toList)/\Hid (wr.ownsRow w.heap.size 266 2 ov dn.length (Zr sgC dn))/\RowKit.Below w.heap.size w wr) (λ_ iv _=>p.size - (intOf iv).toNat)
 case atStart=>exact ⟨0,[],rfl,by omega,by simp,by simp [Hid],World.ownsRow_nil _ _ _ _,RowKit.Below.refl _ _⟩
 case round=>
  obtain ⟨k,dn,rfl,hk,hdl,HE,HO,hbr⟩:=hrel;have hzr:=hbr.size;by_cases hlt:k < p.size
  . have hix:=Za1 p k hlt;have hld:=Zfq p k hlt;obtain ⟨c,hc⟩:∃c,p[k]=c:=⟨_,rfl⟩;rw [hc] at hix hld;have HLD:=Ld hld;clear hld hc;obtain ⟨A0,c0,hv0,hc0⟩:=Zg2 HO.out;subst hv0;by_cases h1:c=42
    . subst h1;have t1:(((42:UInt8).toNat:Int)==42)=true:=rfl;have HE2:Hid (dn ++ [none]++Xv (p.toList.drop (k+1))=Xv p.toList):=by
       show _=_;rw [<-HE.out,HLD.out,Zk1];simp
      have HX:=Ld (Zu HO.out (by (repeat (first | assumption | exact bR | apply bD | apply Za | refine bA ?_ _)):RowKit.Below wr.heap.size wr (wr.alloc (.cells #[.int .u8 0,.bool true] 266))));go_wp2_with (at_builtin;refine wpList_append_own _ rfl (.tmp 23) (.tmp 25) 204 rfl w.heap.size 266 j0 _ 2 2 Tryz.underlying204 hj hy0 hy1 hy2 rfl (by omega) _ dn.length (Zr sgC dn) rfl HX.out ⟨wr.heap.size,0,none⟩ 1 1 (Zr sgC [none]) rfl rfl (λj u hu=>Zad wr 266 (none) #[.int .u8 0,.bool true] rfl _ rfl j u hu) (Jy Zg5 _) (by unfold maxLen;omega) (by omega) (by simp;omega) ?_;intro v1 w5 hown5 hgrow5 _;obtain ⟨A5,c5,hv5,-⟩:=Zg2 hown5;subst hv5)
      have hb5:RowKit.Below w.heap.size w w5:=RowKit.Below.grown (w:=wr.alloc (.cells #[.int .u8 0,.bool true] 266)) (by (repeat (first | assumption | exact bR | apply bD | apply Za | refine bA ?_ _))) hgrow5 (by simp;omega) (λq hq=>(HX.out.lt q hq).1);have HO5:Hid (w5.ownsRow w.heap.size 266 2 (.slice A5 (dn.length+1) c5) (dn ++ [none]).length (Zr sgC (dn ++ [none]))):=by
       show World.ownsRow _ _ _ _ _ _ _;rw [Y6,List.length_append];exact hown5
      clear hown5 hgrow5;go_wp2_with fail
      exact ⟨⟨k+1,dn ++ [none],by go_num,by omega,by simp;omega,HE2,HO5,hb5⟩,by simp [intOf];omega⟩
    . have t1:((c.toNat:Int)==42)=false:=Ze8 (d:=42) h1;by_cases h2:c=92
      . subst h2;have t2:(((92:UInt8).toNat:Int)==92)=true:=rfl;clear t1 h1;have t1:(((92:UInt8).toNat:Int)==42)=false:=rfl;by_cases h3:k+1 < p.size
        . have t3:decide ((k:Int)+1 < (p.size:Int))=true:=(by simp;omega);have hix2:∀W,(Instr.index 9 (.string p) (.int .i64 ((k:Int)+1))).run Tryz.prog W=.ok (.int .u8 (p[k+1].toNat:Int)) W:=Za1 p (k+1) h3;have hld2:=Zfq p (k+1) h3;obtain ⟨d,hd⟩:∃d,p[k+1]=d:=⟨_,rfl⟩;rw [hd] at hix2 hld2;have HLD2:=Ld hld2;clear hld2 hd;by_cases h4:d=42
          . subst h4;have t4:(((42:UInt8).toNat:Int)==42)=true:=rfl;have HE2:Hid (dn ++ [some 42]++Xv (p.toList.drop (k+1+1))=Xv p.toList):=by
             show _=_;rw [<-HE.out,HLD.out,HLD2.out,Zo9];simp
            have HX:=Ld (Zu HO.out (by (repeat (first | assumption | exact bR | apply bD | apply Za | refine bA ?_ _)):RowKit.Below wr.heap.size wr (wr.alloc (.cells #[.int .u8 42,.bool false] 266))));go_wp2_with (at_builtin;refine wpList_append_own _ rfl (.tmp 48) (.tmp 50) 204 rfl w.heap.size 266 j0 _ 2 2 Tryz.underlying204 hj hy0 hy1 hy2 rfl (by omega) _ dn.length (Zr sgC dn) rfl HX.out ⟨wr.heap.size,0,none⟩ 1 1 (Zr sgC [some 42]) rfl rfl (λj u hu=>Zad wr 266 (some 42) #[.int .u8 42,.bool false] rfl _ rfl j u hu) (Jy Zg5 _) (by unfold maxLen;omega) (by omega) (by simp;omega) ?_;intro v1 w5 hown5 hgrow5 _;obtain ⟨A5,c5,hv5,-⟩:=Zg2 hown5;subst hv5)
            have hb5:RowKit.Below w.heap.size w w5:=RowKit.Below.grown (w:=wr.alloc (.cells #[.int .u8 42,.bool false] 266)) (by (repeat (first | assumption | exact bR | apply bD | apply Za | refine bA ?_ _))) hgrow5 (by simp;omega) (λq hq=>(HX.out.lt q hq).1);have HO5:Hid (w5.ownsRow w.heap.size 266 2 (.slice A5 (dn.length+1) c5) (dn ++ [some 42]).length (Zr sgC (dn ++ [some 42]))):=by
             show World.ownsRow _ _ _ _ _ _ _;rw [Y6,List.length_append];exact hown5
            clear hown5 hgrow5;go_wp2_with fail
            exact ⟨⟨k+1+1,dn ++ [some 42],by go_num,by omega,by simp;omega,HE2,HO5,hb5⟩,by simp [intOf];omega⟩
          . have t4:((d.toNat:Int)==42)=false:=Ze8 (d:=42) h4;have HH:Hid (Xv (p.toList.drop k)=some 92 :: Xv (p.toList.drop (k+1))):=by
             show _=_;rw [HLD.out,Za6 (by decide) (λ_=>by rw [HLD2.out];simp [h4])]
            clear h4;have HE2:Hid (dn ++ [some 92]++Xv (p.toList.drop (k+1))=Xv p.toList):=by
             show _=_;rw [<-HE.out,HH.out];simp
            have HX:=Ld (Zu HO.out (by (repeat (first | assumption | exact bR | apply bD | apply Za | refine bA ?_ _)):RowKit.Below wr.heap.size wr (wr.alloc (.cells #[.int .u8 92,.bool false] 266))));go_wp2_with (at_builtin;refine wpList_append_own _ rfl (.tmp 11) (.tmp 16) 204 rfl w.heap.size 266 j0 _ 2 2 Tryz.underlying204 hj hy0 hy1 hy2 rfl (by omega) _ dn.length (Zr sgC dn) rfl HX.out ⟨wr.heap.size,0,none⟩ 1 1 (Zr sgC [some 92]) rfl rfl (λj u hu=>Zad wr 266 (some 92) #[.int .u8 92,.bool false] rfl _ rfl j u hu) (Jy Zg5 _) (by unfold maxLen;omega) (by omega) (by simp;omega) ?_;intro v1 w5 hown5 hgrow5 _;obtain ⟨A5,c5,hv5,-⟩:=Zg2 hown5;subst hv5)
            have hb5:RowKit.Below w.heap.size w w5:=RowKit.Below.grown (w:=wr.alloc (.cells #[.int .u8 92,.bool false] 266)) (by (repeat (first | assumption | exact bR | apply bD | apply Za | refine bA ?_ _))) hgrow5 (by simp;omega) (λq hq=>(HX.out.lt q hq).1);have HO5:Hid (w5.ownsRow w.heap.size 266 2 (.slice A5 (dn.length+1) c5) (dn ++ [some 92]).length (Zr sgC (dn ++ [some 92]))):=by
             show World.ownsRow _ _ _ _ _ _ _;rw [Y6,List.length_append];exact hown5
            clear hown5 hgrow5;go_wp2_with fail
            exact ⟨⟨k+1,dn ++ [some 92],by go_num,by omega,by simp;omega,HE2,HO5,hb5⟩,by simp [intOf];omega⟩
        . have t3:decide ((k:Int)+1 < (p.size:Int))=false:=(by simp;omega);have HH:Hid (Xv (p.toList.drop k)=some 92 :: Xv (p.toList.drop (k+1))):=by
           show _=_;rw [HLD.out,Za6 (by decide) (λ_=>by rw [List.drop_eq_nil_of_le (by rw [Zk];omega)];simp)]
          have HE2:Hid (dn ++ [some 92]++Xv (p.toList.drop (k+1))=Xv p.toList):=by
           show _=_;rw [<-HE.out,HH.out];simp
          have HX:=Ld (Zu HO.out (by (repeat (first | assumption | exact bR | apply bD | apply Za | refine bA ?_ _)):RowKit.Below wr.heap.size wr (wr.alloc (.cells #[.int .u8 92,.bool false] 266))));go_wp2_with (at_builtin;refine wpList_append_own _ rfl (.tmp 11) (.tmp 16) 204 rfl w.heap.size 266 j0 _ 2 2 Tryz.underlying204 hj hy0 hy1 hy2 rfl (by omega) _ dn.length (Zr sgC dn) rfl HX.out ⟨wr.heap.size,0,none⟩ 1 1 (Zr sgC [some 92]) rfl rfl (λj u hu=>Zad wr 266 (some 92) #[.int .u8 92,.bool false] rfl _ rfl j u hu) (Jy Zg5 _) (by unfold maxLen;omega) (by omega) (by simp;omega) ?_;intro v1 w5 hown5 hgrow5 _;obtain ⟨A5,c5,hv5,-⟩:=Zg2 hown5;subst hv5)
          have hb5:RowKit.Below w.heap.size w w5:=RowKit.Below.grown (w:=wr.alloc (.cells #[.int .u8 92,.bool false] 266)) (by (repeat (first | assumption | exact bR | apply bD | apply Za | refine bA ?_ _))) hgrow5 (by simp;omega) (λq hq=>(HX.out.lt q hq).1);have HO5:Hid (w5.ownsRow w.heap.size 266 2 (.slice A5 (dn.length+1) c5) (dn ++ [some 92]).length (Zr sgC (dn ++ [some 92]))):=by
           show World.ownsRow _ _ _ _ _ _ _;rw [Y6,List.length_append];exact hown5
          clear hown5 hgrow5;go_wp2_with fail
          exact ⟨⟨k+1,dn ++ [some 92],by go_num,by omega,by simp;omega,HE2,HO5,hb5⟩,by simp [intOf];omega⟩
      . have t2:((c.toNat:Int)==92)=false:=Ze8 (d:=92) h2;have HH:Hid (Xv (p.toList.drop k)=some c :: Xv (p.toList.drop (k+1))):=by
         show _=_;rw [HLD.out,Za6 h1 (λe=>absurd e h2)]
        clear h1 h2;have HE2:Hid (dn ++ [some c]++Xv (p.toList.drop (k+1))=Xv p.toList):=by
         show _=_;rw [<-HE.out,HH.out];simp
        have HX:=Ld (Zu HO.out (by (repeat (first | assumption | exact bR | apply bD | apply Za | refine bA ?_ _)):RowKit.Below wr.heap.size wr (wr.alloc (.cells #[.int .u8 (c.toNat:Int),.bool false] 266))));go_wp2_with (at_builtin;refine wpList_append_own _ rfl (.tmp 11) (.tmp 16) 204 rfl w.heap.size 266 j0 _ 2 2 Tryz.underlying204 hj hy0 hy1 hy2 rfl (by omega) _ dn.length (Zr sgC dn) rfl HX.out ⟨wr.heap.size,0,none⟩ 1 1 (Zr sgC [some c]) rfl rfl (λj u hu=>Zad wr 266 (some c) #[.int .u8 (c.toNat:Int),.bool false] rfl _ rfl j u hu) (Jy Zg5 _) (by unfold maxLen;omega) (by omega) (by simp;omega) ?_;intro v1 w5 hown5 hgrow5 _;obtain ⟨A5,c5,hv5,-⟩:=Zg2 hown5;subst hv5)
        have hb5:RowKit.Below w.heap.size w w5:=RowKit.Below.grown (w:=wr.alloc (.cells #[.int .u8 (c.toNat:Int),.bool false] 266)) (by (repeat (first | assumption | exact bR | apply bD | apply Za | refine bA ?_ _))) hgrow5 (by simp;omega) (λq hq=>(HX.out.lt q hq).1);have HO5:Hid (w5.ownsRow w.heap.size 266 2 (.slice A5 (dn.length+1) c5) (dn ++ [some c]).length (Zr sgC (dn ++ [some c]))):=by
         show World.ownsRow _ _ _ _ _ _ _;rw [Y6,List.length_append];exact hown5
        clear hown5 hgrow5;go_wp2_with fail
        exact ⟨⟨k+1,dn ++ [some c],by go_num,by omega,by simp;omega,HE2,HO5,hb5⟩,by simp [intOf];omega⟩
  . have HD:Hid (dn=Xv p.toList):=by
     show _=_;have:=HE.out;rw [List.drop_eq_nil_of_le (by rw [Zk];omega)] at this;simpa [Xv] using this
    obtain ⟨-,A0,c0,hv0,hc0,hcm0,hs0⟩:=Y1 Zg5 HO.out;subst hv0;have HS0:=Ld hs0;clear hs0 HO;go_wp2_with fail
    go_ret
    rw [<-HD.out];exact ⟨A0,c0,rfl,hc0,hcm0,HS0.out,hbr⟩
theorem Zub {w:World}{B:Nat}{A:Option Addr}{xs:List (Option UInt8)}(h:Z5h w B A xs){i:Nat}{x:Option UInt8}(hx:xs[i]? = some x):∃b o,A=some ⟨b,o,none⟩/\b < B/\AtG sgC w b (o+i*2) x:=by
 obtain ⟨b,o,e,hb,hc⟩:=h.at_ (List.getElem?_eq_some_iff.1 hx).1;exact ⟨b,o,e,hb,hc i x hx⟩
theorem Zkx {n m f i st:Nat}(hf:f < n)(hi:i<=m):(n - (f+1))*(m+1)+(m - (st+1)) < (n - f)*(m+1)+(m - i):=by
 have e:n - f=(n - (f+1))+1:=by omega
 rw [e,Nat.add_mul];omega
theorem Zt8 {n m f j i:Nat}(hf:f<=j)(hi:i < m):(n - j)*(m+1)+(m - (i+1)) < (n - f)*(m+1)+(m - i):=by
 have:=Nat.mul_le_mul_right (m+1) (show n - j<=n - f by omega);omega
theorem Zlw {P:List (Option UInt8)}{k:Nat}{b:UInt8}(h:P[k]? = some (some b)):((P.drop k).all λx=>x==none)=false:=by rw [K6 h];simp
theorem Zke {P:List (Option UInt8)}{k:Nat}(h:P[k]? = some none):((P.drop k).all λx=>x==none)=((P.drop (k+1)).all λx=>x==none):=by rw [K6 h];simp
theorem Zq3 (P:List (Option UInt8))(s:ByteArray)(A:Option Addr)(c:Nat)(w:World)(hl:P.length<=1000)(hz:s.size<=1000)(hsl:Z5h w w.heap.size A P) :
 Calls Tryz.prog 143 #[.slice A P.length c,.string s] w λr w'=>r=.returned (.bool (Y7 P s.toList))/\RowKit.Below w.heap.size w w':=by
 have HS:=Ld hsl;clear hsl;obtain ⟨v,hv⟩:∃v,Y7 P s.toList=v:=⟨_,rfl⟩;rw [hv];have HV:=Ld hv;clear hv;go_enter Tryz.func143,Tryz.ntmps143
 go_wp2_with fail
 go_loopw [5,6,7,8] (λiv jv sv fv wr=>∃(i j f:Nat) (st:Int),iv=.int .i64 i/\jv=.int .i64 j/\sv=.int .i64 st/\fv=.int .i64 f/\i<=P.length/\j<=s.size/\f<=j/\Hid (Zlr P s.toList i j st f)/\RowKit.Below w.heap.size w wr) (λiv _ _ fv _=>(s.size - (intOf fv).toNat)*(P.length+1)+(P.length - (intOf iv).toNat))
 case atStart=>exact ⟨0,0,0,-1,rfl,rfl,rfl,rfl,by omega,by omega,by omega,Zrc _ _,RowKit.Below.refl _ _⟩
 case round=>
  obtain ⟨i,j,f,st,rfl,rfl,rfl,rfl,hi,hj,hfj,HM,hbr⟩:=hrel;have hzr:=hbr.size;by_cases hjl:j < s.size
  . have tj:decide ((j:Int) < (s.size:Int))=true:=(by simp;omega);have hix:=Za1 s j hjl;have hSj:=Ub s j hjl;obtain ⟨d,hd⟩:∃d,s[j]=d:=⟨_,rfl⟩;rw [hd] at hix hSj;have HSJ:=Ld hSj;clear hd hSj;by_cases hil:i < P.length
    . have ti:decide ((i:Int) < (P.length:Int))=true:=(by simp;omega);obtain ⟨x,hx⟩:∃x,P[i]? = some x:=⟨_,gE hil⟩;obtain ⟨b1,o1,rfl,hb1,hat⟩:=Zub (HS.out.below hbr) hx;have HX:=Ld hx;clear hx;cases x with
      | none=>
       have k0:wr.cell? ⟨b1,o1+i*2,none⟩=some (.int .u8 0):=hat 0 _ rfl;have k1:wr.cell? ⟨b1,o1+i*2+1,none⟩=some (.bool true):=hat 1 _ rfl;clear hat;have HM2:Hid (Zlr P s.toList (i+1) j (i:Int) j):=Zwn HM.out HX.out;go_wp2_with fail
       exact ⟨⟨i+1,j,j,i,by go_num,rfl,rfl,rfl,by omega,by omega,by omega,HM2,hbr⟩,by simp only [intOf];exact Zt8 hfj hil⟩
      | some b=>
       have k0:wr.cell? ⟨b1,o1+i*2,none⟩=some (.int .u8 (b.toNat:Int)):=hat 0 _ rfl;have k1:wr.cell? ⟨b1,o1+i*2+1,none⟩=some (.bool false):=hat 1 _ rfl;clear hat;by_cases hbd:b=d
       . have tb:((b.toNat:Int)==(d.toNat:Int))=true:=Ztk hbd;have HM2:Hid (Zlr P s.toList (i+1) (j+1) st f):=Zzt HM.out (by rw [<-hbd] at HSJ;rw [HX.out]) (by rw [HSJ.out,hbd]);clear hbd;go_wp2_with fail
         go_quiet (fail)
         go_wp2_with fail
         exact ⟨⟨i+1,j+1,f,st,by go_num,by go_num,rfl,rfl,by omega,by omega,by omega,HM2,Za hbr _⟩,by simp only [intOf];exact Zt8 (nL _) hil⟩
       . have tb:((b.toNat:Int)==(d.toNat:Int))=false:=Ze8 hbd;have HMS:Hid (Z23 P s.toList i j):=⟨.inr ⟨b,d,HX.out,HSJ.out,hbd⟩,by rw [Zk];exact hjl⟩;clear hbd;by_cases hs0:0<=st
         . have ts:decide ((0:Int)<=st)=true:=(by simp [hs0]);obtain ⟨stn,rfl⟩:=Int.eq_ofNat_of_zero_le hs0;obtain ⟨hf1,hst1,hm2⟩:=Zku HM.out HMS.out;rw [Zk] at hf1;have HM2:=Ld hm2;clear hm2 hs0;go_wp2_with fail
           go_quiet (fail)
           go_wp2_with fail
           exact ⟨⟨stn+1,f+1,f+1,stn,by go_num,by go_num,rfl,by go_num,by omega,by omega,by omega,HM2,Za hbr _⟩,by simp only [intOf];exact Zkx hf1 hi⟩
         . have ts:decide ((0:Int)<=st)=false:=(by simp [hs0]);have HVF:Hid (v=false):=(by show _=_;rw [<-HV.out];exact Zs4 HM.out HMS.out hs0);clear hs0;go_wp2_with fail
           go_quiet (fail)
           go_wp2_with fail
           go_ret
           rw [HVF.out];exact ⟨rfl,Za hbr _⟩
    . have ti:decide ((i:Int) < (P.length:Int))=false:=(by simp;omega);have HMS:Hid (Z23 P s.toList i j):=⟨.inl (List.getElem?_eq_none (by omega)),by rw [Zk];exact hjl⟩;by_cases hs0:0<=st
      . have ts:decide ((0:Int)<=st)=true:=(by simp [hs0]);obtain ⟨stn,rfl⟩:=Int.eq_ofNat_of_zero_le hs0;obtain ⟨hf1,hst1,hm2⟩:=Zku HM.out HMS.out;rw [Zk] at hf1;have HM2:=Ld hm2;clear hm2 hs0;go_wp2_with fail
        go_quiet (fail)
        go_wp2_with fail
        exact ⟨⟨stn+1,f+1,f+1,stn,by go_num,by go_num,rfl,by go_num,by omega,by omega,by omega,HM2,Za hbr _⟩,by simp only [intOf];exact Zkx hf1 hi⟩
      . have ts:decide ((0:Int)<=st)=false:=(by simp [hs0]);have HVF:Hid (v=false):=(by show _=_;rw [<-HV.out];exact Zs4 HM.out HMS.out hs0);clear hs0;go_wp2_with fail
        go_quiet (fail)
        go_wp2_with fail
        go_ret
        rw [HVF.out];exact ⟨rfl,Za hbr _⟩
  . have tj:decide ((j:Int) < (s.size:Int))=false:=(by simp;omega);have HEND:Hid (v=(P.drop i).all λx=>x==none):=(by show _=_;rw [<-HV.out];exact Zxz HM.out (by rw [Zk];omega));clear HM;go_wp2_with fail
    obtain ⟨wo,rfl⟩:∃wo:World,wo=wr:=⟨_,rfl⟩;go_loopw [5] (λiv wr=>∃k:Nat,iv=.int .i64 k/\k<=P.length/\Hid (v=(P.drop k).all λx=>x==none)/\RowKit.Below w.heap.size w wr) (λiv _=>P.length - (intOf iv).toNat)
    case atStart=>exact ⟨i,rfl,hi,HEND,hbr⟩
    case round=>
     obtain ⟨k,rfl,hk,HK,hbr2⟩:=hrel;by_cases hkl:k < P.length
     . have ti:decide ((k:Int) < (P.length:Int))=true:=(by simp;omega);obtain ⟨x,hx⟩:∃x,P[k]? = some x:=⟨_,gE hkl⟩;obtain ⟨b1,o1,rfl,hb1,hat⟩:=Zub (HS.out.below hbr2) hx;have HX:=Ld hx;clear hx;cases x with
       | none=>
        have k1:wr.cell? ⟨b1,o1+k*2+1,none⟩=some (.bool true):=hat 1 _ rfl;clear hat;have HK2:Hid (v=(P.drop (k+1)).all λx=>x==none):=(by show _=_;rw [HK.out,Zke HX.out]);go_wp2_with fail
        exact ⟨⟨k+1,by go_num,by omega,HK2,hbr2⟩,by simp [intOf];omega⟩
       | some b=>
        have k1:wr.cell? ⟨b1,o1+k*2+1,none⟩=some (.bool false):=hat 1 _ rfl;clear hat;have HVF:Hid (v=false):=(by show _=_;rw [HK.out,Zlw HX.out]);have te:((k:Int)==(P.length:Int))=false:=(by simp;omega);go_wp2_with fail
        go_ret
        rw [HVF.out];exact ⟨rfl,hbr2⟩
     . have ti:decide ((k:Int) < (P.length:Int))=false:=(by simp;omega);have te:((k:Int)==(P.length:Int))=true:=(by simp;omega);have HVT:Hid (v=true):=(by show _=_;rw [HK.out,List.drop_eq_nil_of_le (by omega)];rfl);go_wp2_with fail
       go_ret
       rw [HVT.out];exact ⟨rfl,hbr2⟩
theorem Zig {l:List UInt8}(h:Yi l=0):l.length<=60:=by
 unfold Yi at h;split at h
 . omega
 . omega
theorem Zp5 (p s:ByteArray)(w:World)(hp:p.size<=140737488351232)(hs:s.size<=140737488351232) :
 Calls Tryz.prog 115 #[.string p,.string s] w λr w'=>r=.returned (.tuple #[.bool (rsB (likeR p.toList s.toList)),Yh (rsE (likeR p.toList s.toList))])/\RowKit.Below w.heap.size w w':=by
 have HP:=Ld (λW=>Ju p W hp);have HS:=Ld (λW=>Ju s W hs);obtain ⟨q,hq⟩:∃q,likeR p.toList s.toList=q:=⟨_,rfl⟩;rw [hq];have HQ:=Ld hq;clear hq;by_cases h1:Yi p.toList=0
 . have hp60:p.size<=60:=by have:=Zig h1;rwa [Zk] at this
   have HR:=Ld (λW=>Zuo p W hp60);have hsl:=Zeh p.size p.toList (by rw [Zk];exact nL _);rw [Zk] at hsl;have t1:(Yi p.toList != 0)=false:=by simp [h1]
   by_cases h2:Yi s.toList=0
   . have hs60:s.size<=60:=(by have:=Zig h2;rwa [Zk] at this);have t2:(Yi s.toList != 0)=false:=(by simp [h2]);have HV:Hid (q=.ok (Y7 (Xv p.toList) s.toList)):=(by show _=_;rw [<-HQ.out];unfold likeR;rw [if_neg (by simp [h1]),if_neg (by simp [h2])]);have HM:=Ld (λA c W h=>Zq3 (Xv p.toList) s A c W (by omega) (by omega) h);clear h1 h2;go_enter Tryz.func115,Tryz.ntmps115
     go_wp2_with fail
     refine (HP.out _).mono ?_;rintro r w1 ⟨rfl,hb1⟩;go_wp2_with fail
     refine (HS.out _).mono ?_;rintro r w2 ⟨rfl,hb2⟩;have hw2:=hb1.trans (hb2.mono hb1.size);clear hb1 hb2;go_wp2_with fail
     refine (HR.out _).mono ?_;rintro r w3 ⟨A3,c3,rfl,-,-,hs3,hb3⟩;have hw3:=hw2.trans (hb3.mono hw2.size);have HM3:=Ld (HM.out A3 c3 w3 hs3);clear hb3 hs3;go_wp2_with fail
     refine HM3.out.mono ?_;rintro r w4 ⟨rfl,hb4⟩;have hw4:=hw3.trans (hb4.mono hw3.size);clear hb4;go_wp2_with fail
     go_ret2
     rw [HV.out];exact ⟨rfl,hw4⟩
   . have t2:(Yi s.toList != 0)=true:=(by simp [h2]);have HV:Hid (q=.bad (Yi s.toList)):=(by show _=_;rw [<-HQ.out];unfold likeR;rw [if_neg (by simp [h1]),if_pos h2]);clear h1 h2;go_enter Tryz.func115,Tryz.ntmps115
     go_wp2_with fail
     refine (HP.out _).mono ?_;rintro r w1 ⟨rfl,hb1⟩;go_wp2_with fail
     refine (HS.out _).mono ?_;rintro r w2 ⟨rfl,hb2⟩;have hw2:=hb1.trans (hb2.mono hb1.size);clear hb1 hb2;go_wp2_with fail
     go_ret2
     rw [HV.out];exact ⟨rfl,hw2⟩
 . have t1:(Yi p.toList != 0)=true:=by simp [h1]
   have HV:Hid (q=.bad (Yi p.toList)):=by show _=_;rw [<-HQ.out];unfold likeR;rw [if_pos h1]
   clear h1;go_enter Tryz.func115,Tryz.ntmps115
   go_wp2_with fail
   refine (HP.out _).mono ?_;rintro r w1 ⟨rfl,hb1⟩;go_wp2_with fail
   go_ret2
   rw [HV.out];exact ⟨rfl,hb1⟩
def Zp (w:World)(r:Ending)(w':World)(q:Rs (List Nd)):Prop:=(∀v,q=.ok v->X3 w r w' v)/\(∀k,q=.bad k->r=.panicked (noV k))/\RowKit.Below w.heap.size w w'
theorem Zp.ok {w w':World}{r:Ending}{v:List Nd}(h:X3 w r w' v):Zp w r w' (.ok v):=⟨λu hu=>by injection hu with hu;rw [<-hu];exact h,λk hk=>(by cases hk),by obtain ⟨_,_,_,_,_,_,hb,_⟩:=h;exact hb⟩
theorem Zp.no {w w':World}{k:Int}(h:RowKit.Below w.heap.size w w'):Zp w (.panicked (noV k)) w' (.bad k):=⟨λu hu=>(by cases hu),λj hj=>(by injection hj with hj;rw [hj]),h⟩
theorem X3.from {w w1 w':World}{r:Ending}{v:List Nd}(h:X3 w1 r w' v)(hb:RowKit.Below w.heap.size w w1):X3 w r w' v:=by
 obtain ⟨A,c,h1,h2,h3,h4,h5,h6⟩:=h;have:=hb.size;exact ⟨A,c,h1,h2,h3,h4,hb.trans (h5.mono this),λb o e=>by have:=h6 b o e;omega⟩
theorem Zr2 (xb:Nat)(nn:Int)(ns nt:ByteArray)(v:List Nd)(A:Option Addr)(c:Nat)(w:World)(es:List En)(hv:Yr v A c w) :
 Calls Tryz.prog 89 #[.pointer (some ⟨xb,0,none⟩),.agg #[.int .i64 9,.int .i64 nn,.string ns,.string nt],.slice A v.length c] w λr w'=>Zp w r w' (Yc es ⟨9,nn,ns,nt⟩ v):=by
 have hb0:RowKit.Below w.heap.size w (w.alloc (.cells #[.int .i64 9,.int .i64 nn,.string ns,.string nt] 37)):=by (repeat (first | assumption | exact bR | apply bD | apply Za | refine bA ?_ _))
 have HM:=Ld (Yo v 1 A c _ (hv.later hb0));obtain ⟨y,yr,b,o,hy,rfl,hb,⟨-,x1,-,-⟩,-,hn,-,-,hl⟩:=hv.head;have e1:=(hb0.cell (p:=⟨b,o+1,none⟩) hb).trans x1;have HQ:Hid (Yc es ⟨9,nn,ns,nt⟩ v=if opH v=1 then .ok [bN (y.n==0)] else .bad 2):=by
  show _=_;unfold Yc Vi;simp only [if_true,Rs.bind];by_cases h:opH v=1
  . simp [h,hn]
  . simp [h]
 rw [HQ.out];have hl':(0:Int) < (v.length:Int):=by omega
 clear hv hy hn hl x1;by_cases h:opH v=1
 . rw [if_pos h];have HH:=Ld h;clear h;have HT:=Ld (λW=>Xt (y.n==0) W);obtain ⟨tq,htq⟩:∃tq,(y.n==0)=tq:=⟨_,rfl⟩;rw [htq] at HT ⊢;go_enter Tryz.func89,Tryz.ntmps89
   go_wp2_with fail
   refine HM.out.mono ?_;rintro r w1 ⟨hr,rfl⟩;have hr2:=hr.1 HH.out;subst hr2;clear hr;go_wp2_with fail
   refine (HT.out _).mono ?_;rintro r w2 hnew;have HN:=Ld (X3.from hnew hb0);obtain ⟨A2,c2,rfl,-⟩:=hnew;go_wp2_with fail
   go_ret
   exact Zp.ok HN.out
 . rw [if_neg h];have HH:=Ld h;clear h;go_enter Tryz.func89,Tryz.ntmps89
   go_wp2_with fail
   refine HM.out.mono ?_;rintro r w1 ⟨hr,rfl⟩;have hr2:=hr.2 HH.out;subst hr2;go_wp2_with fail
   exact ⟨rfl,Zp.no hb0⟩
theorem Zry (xb:Nat)(nn:Int)(ns nt:ByteArray)(v:List Nd)(A:Option Addr)(c:Nat)(w:World)(es:List En)(hv:Yr v A c w)(hvi:NdI v)(hg:Yy w) :
 Calls Tryz.prog 89 #[.pointer (some ⟨xb,0,none⟩),.agg #[.int .i64 10,.int .i64 nn,.string ns,.string nt],.slice A v.length c] w λr w'=>Zp w r w' (Yc es ⟨10,nn,ns,nt⟩ v):=by
 have hb0:RowKit.Below w.heap.size w (w.alloc (.cells #[.int .i64 10,.int .i64 nn,.string ns,.string nt] 37)):=by (repeat (first | assumption | exact bR | apply bD | apply Za | refine bA ?_ _))
 have HM:=Ld (Yo v 2 A c _ (hv.later hb0));obtain ⟨y,yr,b,o,hy,rfl,hb,⟨-,x1,-,-⟩,-,hn,-,-,hl⟩:=hv.head;have e1:=(hb0.cell (p:=⟨b,o+1,none⟩) hb).trans x1;have hyi:I64 y.n:=hvi y (by rw [hy];simp);have HQ:Hid (Yc es ⟨10,nn,ns,nt⟩ v=if opH v=2 then (numR 18 0 y.n).bind λn=>.ok [nN n] else .bad 2):=by
  show _=_;unfold Yc Vi;rw [if_neg (by simp),if_pos rfl];simp only [Rs.bind];by_cases h:opH v=2
  . simp [h,hn]
  . simp [h]
 rw [HQ.out];have hl':(0:Int) < (v.length:Int):=by omega
 have hg0:Yy (w.alloc (.cells #[.int .i64 10,.int .i64 nn,.string ns,.string nt] 37)):=hg.below hb0 hg.lt;have HNG:=Ld (Z2t y.n (w.alloc (.cells #[.int .i64 10,.int .i64 nn,.string ns,.string nt] 37)) hyi);obtain ⟨q,hq⟩:∃q,numR 18 0 y.n=q:=⟨_,rfl⟩;rw [hq] at HNG ⊢;have HTD:=Ld (Ze0 (.int .i64 (rsN q)) (rsE q) _ hg0);have HQE:Hid (∀k,q=.bad k->k≠0):=by
  intro k hk;rw [<-hq,Zo6] at hk;split at hk
  . cases hk
  . injection hk with hk;omega
 clear hv hy hn hl x1 hyi hvi hg hg0 hq;by_cases h:opH v=2
 . rw [if_pos h];have HH:=Ld h;clear h;go_enter Tryz.func89,Tryz.ntmps89
   go_wp2_with fail
   refine HM.out.mono ?_;rintro r w1 ⟨hr,rfl⟩;have hr2:=hr.1 HH.out;subst hr2;clear hr;go_wp2_with fail
   refine HNG.out.mono ?_;rintro r w2 ⟨hr,rfl⟩;unfold U2 at hr;subst hr;go_wp2_with fail
   refine HTD.out.mono ?_;rintro r w3 ⟨hr,hb3⟩;have hw3:=hb0.trans (hb3.mono hb0.size);clear hb3;cases q with
   | ok n=>
    have hr2:=hr.1 rfl;subst hr2;clear hr;go_wp2_with fail
    go_ret
    exact Zp.ok (Zdc (nN n) w 37 hw3)
   | bad k=>
    have hk:k≠0:=HQE.out k rfl;have hr2:=hr.2 hk;subst hr2;clear hr;go_wp2_with fail
    exact ⟨rfl,Zp.no hw3⟩
 . rw [if_neg h];have HH:=Ld h;clear h;go_enter Tryz.func89,Tryz.ntmps89
   go_wp2_with fail
   refine HM.out.mono ?_;rintro r w1 ⟨hr,rfl⟩;have hr2:=hr.2 HH.out;subst hr2;go_wp2_with fail
   exact ⟨rfl,Zp.no hb0⟩
structure SgS (b0:Nat)(ns:ByteArray)(b o:Nat)(s:ByteArray)(w0 W:World):Prop where
 s0:W.cell? ⟨b0,2,none⟩=some (.string ns)
 s1:W.cell? ⟨b,o+2,none⟩=some (.string s)
 bel:RowKit.Below w0.heap.size w0 W
theorem SgS.of {b0:Nat}{ns:ByteArray}{b o:Nat}{s:ByteArray}{w0 W W':World}(h:SgS b0 ns b o s w0 W)(hb:RowKit.Below W.heap.size W W')(h0:b0 < W.heap.size)(h1:b < W.heap.size):SgS b0 ns b o s w0 W':=
 ⟨(hb.cell (p:=⟨b0,2,none⟩) h0).trans h.s0,(hb.cell (p:=⟨b,o+2,none⟩) h1).trans h.s1,h.bel.trans (hb.mono h.bel.size)⟩
theorem Zok (xb:Nat)(nn:Int)(ns nt:ByteArray)(v:List Nd)(A:Option Addr)(c:Nat)(w:World)(es:List En)(hv:Yr v A c w)(hg:Yy w)(hns:ns.size<=140737488351232) :
 Calls Tryz.prog 89 #[.pointer (some ⟨xb,0,none⟩),.agg #[.int .i64 23,.int .i64 nn,.string ns,.string nt],.slice A v.length c] w λr w'=>Zp w r w' (Yc es ⟨23,nn,ns,nt⟩ v):=by
 have hb0:RowKit.Below w.heap.size w (w.alloc (.cells #[.int .i64 23,.int .i64 nn,.string ns,.string nt] 37)):=by (repeat (first | assumption | exact bR | apply bD | apply Za | refine bA ?_ _))
 obtain ⟨y,yr,b,o,hy,hA,hb,⟨-,-,x2,-⟩,-,-,hn,-,hl⟩:=hv.head;have HM:=Ld (Yo v 3 A c (w.alloc (.cells #[.int .i64 23,.int .i64 nn,.string ns,.string nt] 37)).drew ((hv.later hb0).later (by (repeat (first | assumption | exact bR | apply bD | apply Za | refine bA ?_ _)))));subst hA;have e1:=(hb0.cell (p:=⟨b,o+2,none⟩) hb).trans x2;have hys:y.s.size<=140737488351232:=(hv.nd y (by rw [hy];simp)).1;have HQ:Hid (Yc es ⟨23,nn,ns,nt⟩ v=if opH v=3 then (likeR ns.toList y.s.toList).bind λb=>.ok [bN b] else .bad 2):=by
  show _=_;unfold Yc Vi;rw [if_neg (by simp),if_neg (by simp),if_pos rfl];simp only [Rs.bind];by_cases h:opH v=3
  . simp [h,hn]
  . simp [h]
 rw [HQ.out];have hl':(0:Int) < (v.length:Int):=by omega
 have hia:=Um b o v.length c hl;have HMA:=Ld (λW=>Zp5 ns y.s W hns hys);have HERR:=Ld (λW (hW:RowKit.Below w.heap.size w W)=>hg.below hW hg.lt);have HQE:Hid (∀k,likeR ns.toList y.s.toList=.bad k->k≠0):=by
  intro k hk;unfold likeR at hk;split at hk
  . injection hk with hk;rw [<-hk];assumption
  . split at hk
    . injection hk with hk;rw [<-hk];assumption
    . cases hk
 generalize likeR ns.toList y.s.toList=q at HMA HQE ⊢;have HTR:=Ld (λW=>Xt (rsB q) W);have ev0:(w.alloc (.cells #[.int .i64 23,.int .i64 nn,.string ns,.string nt] 37)).cell? ⟨w.heap.size,2,none⟩=some (.string ns):=by simp [World.cell?_alloc_new]
 have hlt0:w.heap.size < (w.alloc (.cells #[.int .i64 23,.int .i64 nn,.string ns,.string nt] 37)).heap.size:=by simp
 have HLT0:=Ld hlt0;have hbl:b < (w.alloc (.cells #[.int .i64 23,.int .i64 nn,.string ns,.string nt] 37)).heap.size:=by simp;omega
 have HBL:=Ld hbl;have HS0:Hid (SgS w.heap.size ns b o y.s w (w.alloc (.cells #[.int .i64 23,.int .i64 nn,.string ns,.string nt] 37)).drew):=⟨ev0,e1,hb0.drew⟩;clear hv hy hn hl x2 hys hg hlt0 hbl;by_cases h:opH v=3
 . rw [if_pos h];have HH:=Ld h;clear h;go_enter Tryz.func89,Tryz.ntmps89
   go_wp2_with fail
   refine Yg (S:=SgS w.heap.size ns b o y.s w) [false,false,false,true,false,false,false,true,false,false,true,true,false] (by kernel_rfl) (by kernel_rfl) (λ_ _ _ _ _ h=>h) HS0.out (λhW'=>?_);simp only [List.zip_cons_cons,List.zip_nil_left];(repeat ((first | (refine Ze (v:=?_) (by rfl) ?_ ?_;rotate_left;(focus (intro W hW;obtain ⟨s0,s1,s2⟩:=hW;go_simp;try with_reducible rfl))) | refine Zd (by rfl) ?_);simp only [Act.put,pA,pB,pC]))
   refine Zc (λK hK=>?_);go_simp
   refine HM.out.mono ?_;rintro r w1 ⟨hr,rfl⟩;have hr2:=hr.1 HH.out;subst hr2;refine hK _ _ HS0.out ?_;clear hK K hr;(repeat ((first | (refine Ze (v:=?_) (by rfl) ?_ ?_;rotate_left;(focus (intro W hW;obtain ⟨s0,s1,s2⟩:=hW;go_simp;try with_reducible rfl))) | refine Zd (by rfl) ?_);simp only [Act.put,pA,pB,pC]))
   refine Zc (λK hK=>?_);go_simp
   refine (HMA.out _).mono ?_;rintro r w2 ⟨rfl,hb2'⟩;have HS2:Hid (SgS w.heap.size ns b o y.s w w2):=HS0.out.of hb2' HLT0.out HBL.out;have hz2:w.heap.size < w2.heap.size:=by have h1:=hb2'.size;have h2:=HLT0.out;exact Nat.lt_of_lt_of_le h2 h1
   refine hK _ _ HS2.out ?_;clear hK K hb2';(repeat ((first | (refine Ze (v:=?_) (by rfl) ?_ ?_;rotate_left;(focus (intro W hW;obtain ⟨s0,s1,s2⟩:=hW;go_simp;try with_reducible rfl))) | refine Zd (by rfl) ?_);simp only [Act.put,pA,pB,pC]))
   refine Zc (λK hK=>?_);go_simp
   refine (Q8 (.bool (rsB q)) (rsE q) w2 (HERR.out w2 HS2.out.bel)).mono ?_;rintro r w3 ⟨hr,hb3⟩;have HS3:Hid (SgS w.heap.size ns b o y.s w w3):=HS2.out.of hb3 hz2 (by omega);cases q with
   | ok t=>
    have hr2:=hr.1 rfl;subst hr2;refine hK _ _ HS3.out ?_;clear hK K hr;have hz3:w.heap.size < w3.heap.size:=(by have:=hb3.size;omega);clear hb3;(repeat ((first | (refine Ze (v:=?_) (by rfl) ?_ ?_;rotate_left;(focus (intro W hW;obtain ⟨s0,s1,s2⟩:=hW;go_simp;try with_reducible rfl))) | refine Zd (by rfl) ?_);simp only [Act.put,pA,pB,pC]))
    refine Zc (λK hK=>?_);go_simp
    refine (HTR.out w3).mono ?_;rintro r w4 hnew;have HN:=Ld (X3.from hnew HS3.out.bel);obtain ⟨A2,c2,rfl,-,-,-,hb4,-⟩:=hnew;refine hK _ _ (HS3.out.of hb4 hz3 (by omega)) ?_;clear hK K hb4;(repeat ((first | (refine Ze (v:=?_) (by rfl) ?_ ?_;rotate_left;(focus (intro W hW;obtain ⟨s0,s1,s2⟩:=hW;go_simp;try with_reducible rfl))) | refine Zd (by rfl) ?_);simp only [Act.put,pA,pB,pC]))
    refine Yj ?_;go_wp2_with fail
    go_ret
    exact Zp.ok HN.out
   | bad k=>
    have hr2:=hr.2 (HQE.out k rfl);subst hr2;dsimp only;clear hK K hr;go_wp2_with fail
    exact ⟨rfl,Zp.no HS3.out.bel⟩
 . rw [if_neg h];have HH:=Ld h;clear h;go_enter Tryz.func89,Tryz.ntmps89
   go_wp2_with fail
   refine Yg (S:=SgS w.heap.size ns b o y.s w) [false,false,false,true,false,false,false,true,false,false,true,true,false] (by kernel_rfl) (by kernel_rfl) (λ_ _ _ _ _ h=>h) HS0.out (λhW'=>?_);simp only [List.zip_cons_cons,List.zip_nil_left];(repeat ((first | (refine Ze (v:=?_) (by rfl) ?_ ?_;rotate_left;(focus (intro W hW;obtain ⟨s0,s1,s2⟩:=hW;go_simp;try with_reducible rfl))) | refine Zd (by rfl) ?_);simp only [Act.put,pA,pB,pC]))
   refine Zc (λK hK=>?_);go_simp
   refine HM.out.mono ?_;rintro r w1 ⟨hr,rfl⟩;have hr2:=hr.2 HH.out;subst hr2;dsimp only;clear hK K hr;go_wp2_with fail
   exact ⟨rfl,Zp.no HS0.out.bel⟩
theorem Zvp (xb:Nat)(nn:Int)(ns nt:ByteArray)(v:List Nd)(A:Option Addr)(c:Nat)(w:World)(es:List En)(hv:Yr v A c w) :
 Calls Tryz.prog 89 #[.pointer (some ⟨xb,0,none⟩),.agg #[.int .i64 24,.int .i64 nn,.string ns,.string nt],.slice A v.length c] w λr w'=>Zp w r w' (Yc es ⟨24,nn,ns,nt⟩ v):=by
 have hb0:RowKit.Below w.heap.size w (w.alloc (.cells #[.int .i64 24,.int .i64 nn,.string ns,.string nt] 37)):=by (repeat (first | assumption | exact bR | apply bD | apply Za | refine bA ?_ _))
 obtain ⟨y,yr,b,o,hy,hA,hb,⟨-,-,x2,-⟩,-,-,hn,-,hl⟩:=hv.head;have HM:=Ld (Yo v 4 A c (w.alloc (.cells #[.int .i64 24,.int .i64 nn,.string ns,.string nt] 37)).drew ((hv.later hb0).later (by (repeat (first | assumption | exact bR | apply bD | apply Za | refine bA ?_ _)))));subst hA;have e1:=(hb0.cell (p:=⟨b,o+2,none⟩) hb).trans x2;have HQ:Hid (Yc es ⟨24,nn,ns,nt⟩ v=if opH v=4 then .ok [bN (decide (y.s=ns))] else .bad 2):=by
  show _=_;unfold Yc Vi;rw [if_neg (by simp),if_neg (by simp),if_neg (by simp),if_pos rfl];simp only [Rs.bind];by_cases h:opH v=4
  . simp [h,hn]
  . simp [h]
 rw [HQ.out];have hl':(0:Int) < (v.length:Int):=by omega
 have hia:=Um b o v.length c hl;have heq:(y.s.toList==ns.toList)=decide (y.s=ns):=by rw [Bool.eq_iff_iff];simp [Zip]
 obtain ⟨tq,htq⟩:∃tq,decide (y.s=ns)=tq:=⟨_,rfl⟩;rw [htq] at heq ⊢;have HTR:=Ld (λW=>Xt tq W);have ev0:(w.alloc (.cells #[.int .i64 24,.int .i64 nn,.string ns,.string nt] 37)).cell? ⟨w.heap.size,2,none⟩=some (.string ns):=by simp [World.cell?_alloc_new]
 have hlt0:w.heap.size < (w.alloc (.cells #[.int .i64 24,.int .i64 nn,.string ns,.string nt] 37)).heap.size:=by simp
 have HLT0:=Ld hlt0;have hbl:b < (w.alloc (.cells #[.int .i64 24,.int .i64 nn,.string ns,.string nt] 37)).heap.size:=by simp;omega
 have HBL:=Ld hbl;have HS0:Hid (SgS w.heap.size ns b o y.s w (w.alloc (.cells #[.int .i64 24,.int .i64 nn,.string ns,.string nt] 37)).drew):=⟨ev0,e1,hb0.drew⟩;clear hv hy hn hl x2 hlt0 hbl htq;by_cases h:opH v=4
 . rw [if_pos h];have HH:=Ld h;clear h;go_enter Tryz.func89,Tryz.ntmps89
   go_wp2_with fail
   refine Zg (S:=SgS w.heap.size ns b o y.s w) [(0,false),(5,false),(6,false),(1,true),(2,false),(3,false),(4,false),(7,false),(8,true),(9,false)] (by kernel_rfl) (by kernel_rfl) (λ_ _ _ _ _ h=>h) HS0.out (λhW'=>?_);simp only [Yl,List.filterMap_cons,List.filterMap_nil,List.getElem?_cons_zero,List.getElem?_cons_succ,Option.map_some];(repeat ((first | (refine Ze (v:=?_) (by rfl) ?_ ?_;rotate_left;(focus (intro W hW;obtain ⟨s0,s1,s2⟩:=hW;go_simp;try with_reducible rfl))) | refine Zd (by rfl) ?_);simp only [Act.put,pA,pB,pC]))
   refine Zc (λK hK=>?_);go_simp
   refine HM.out.mono ?_;rintro r w1 ⟨hr,rfl⟩;have hr2:=hr.1 HH.out;subst hr2;refine hK _ _ HS0.out ?_;clear hK K hr;(repeat ((first | (refine Ze (v:=?_) (by rfl) ?_ ?_;rotate_left;(focus (intro W hW;obtain ⟨s0,s1,s2⟩:=hW;go_simp;try with_reducible rfl))) | refine Zd (by rfl) ?_);simp only [Act.put,pA,pB,pC]))
   refine Zc (λK hK=>?_);go_simp
   refine (HTR.out _).mono ?_;rintro r w4 hnew;have HN:=Ld (X3.from hnew HS0.out.bel);obtain ⟨A2,c2,rfl,-,-,-,hb4,-⟩:=hnew;refine hK _ _ (HS0.out.of hb4 HLT0.out HBL.out) ?_;clear hK K hb4;(repeat ((first | (refine Ze (v:=?_) (by rfl) ?_ ?_;rotate_left;(focus (intro W hW;obtain ⟨s0,s1,s2⟩:=hW;go_simp;try with_reducible rfl))) | refine Zd (by rfl) ?_);simp only [Act.put,pA,pB,pC]))
   refine Yj ?_;go_wp2_with fail
   go_ret
   exact Zp.ok HN.out
 . rw [if_neg h];have HH:=Ld h;clear h;go_enter Tryz.func89,Tryz.ntmps89
   go_wp2_with fail
   refine Zg (S:=SgS w.heap.size ns b o y.s w) [(0,false),(5,false),(6,false),(1,true),(2,false),(3,false),(4,false),(7,false),(8,true),(9,false)] (by kernel_rfl) (by kernel_rfl) (λ_ _ _ _ _ h=>h) HS0.out (λhW'=>?_);simp only [Yl,List.filterMap_cons,List.filterMap_nil,List.getElem?_cons_zero,List.getElem?_cons_succ,Option.map_some];(repeat ((first | (refine Ze (v:=?_) (by rfl) ?_ ?_;rotate_left;(focus (intro W hW;obtain ⟨s0,s1,s2⟩:=hW;go_simp;try with_reducible rfl))) | refine Zd (by rfl) ?_);simp only [Act.put,pA,pB,pC]))
   refine Zc (λK hK=>?_);go_simp
   refine HM.out.mono ?_;rintro r w1 ⟨hr,rfl⟩;have hr2:=hr.2 HH.out;subst hr2;dsimp only;clear hK K hr;go_wp2_with fail
   exact ⟨rfl,Zp.no HS0.out.bel⟩
theorem Zkq (w:World)(a:Option Addr)(n c n' c':Nat):(binOp .eql 100 (.slice a n c) (.slice none n' c')).run Tryz.prog w=.ok (.bool a.isNone) w:=Lib.run_eql_slice_nil w _ _ a n c n' c' Tryz.underlying100
theorem Zjl {v:List Nd}{s:ByteArray}{k:Int}(h:Js v s=.bad k):k≠0:=by
 unfold Js at h;split at h
 . injection h with h;rw [<-h];assumption
 . split at h
   . split at h
     . cases h
     . injection h with h;omega
   . injection h with h;omega
theorem Zfo {es:List En}{v:List Nd}{k:Int}(h:K8 es v=.bad k):k=2:=by
 unfold K8 at h;split at h
 . cases h
 . split at h
   . cases h
   . injection h with h;exact h.symm
theorem Zgq {es:List En}{op nn:Int}{ns nt:ByteArray}{v:List Nd}(h:op=21\/op=22):Yc es ⟨op,nn,ns,nt⟩ v=(K8 es v).bind λr=>match r with
 | none=>if op=21 then .ok [bN false] else .bad 8
 | some r=>if op=21 then (match Js r ns with | .ok _=>.ok [bN true] | .bad _=>.ok [bN false]) else Js r ns:=by
 unfold Yc;rw [if_neg (show ¬op=9 by omega),if_neg (show ¬op=10 by omega),if_neg (show ¬op=23 by omega),if_neg (show ¬op=24 by omega)];rfl
theorem Zrv (x:Evl)(xb i:Nat)(nn:Int)(ns nt:ByteArray)(v:List Nd)(A:Option Addr)(c:Nat)(w:World)(hx:V0 x xb w)(hB:Blk w xb 99 (x.cells i))(hv:Yr v A c w)(hvi:NdI v) :
 Calls Tryz.prog 89 #[.pointer (some ⟨xb,0,none⟩),.agg #[.int .i64 21,.int .i64 nn,.string ns,.string nt],.slice A v.length c] w λr w'=>Zp w r w' (Yc x.es ⟨21,nn,ns,nt⟩ v):=by
 have hb0:RowKit.Below w.heap.size w (w.alloc (.cells #[.int .i64 21,.int .i64 nn,.string ns,.string nt] 37)):=by (repeat (first | assumption | exact bR | apply bD | apply Za | refine bA ?_ _))
 have hxb:=hB.lt;have HR:=Ld (Zge x xb i v A c _ (hx.keep (hb0.mono (Nat.le_of_lt hxb))) (hB.below hb0 hxb) (hv.later hb0) hvi);have HERR:=Ld (λW (hW:RowKit.Below w.heap.size w W)=>hx.err.below hW hx.err.lt);rw [Zgq (by omega)];have HBK:=Ld (λk (h:K8 x.es v=.bad k)=>Zfo h);generalize K8 x.es v=q at HR HBK ⊢;have ev0:(w.alloc (.cells #[.int .i64 21,.int .i64 nn,.string ns,.string nt] 37)).cell? ⟨w.heap.size,0,none⟩=some (.int .i64 21):=by simp [World.cell?_alloc_new]
 have ev2:(w.alloc (.cells #[.int .i64 21,.int .i64 nn,.string ns,.string nt] 37)).cell? ⟨w.heap.size,2,none⟩=some (.string ns):=by simp [World.cell?_alloc_new]
 have hlt0:w.heap.size < (w.alloc (.cells #[.int .i64 21,.int .i64 nn,.string ns,.string nt] 37)).heap.size:=by simp
 have HLT0:=Ld hlt0;have heq:=Zkq;have HB0:=Ld hb0;clear hx hB hv hvi hb0 hlt0;cases q with
 | bad k=>
  show Calls _ _ _ _ λr w'=>Zp w r w' (.bad k);go_enter Tryz.func89,Tryz.ntmps89
  go_wp2_with fail
  refine HR.out.mono ?_;rintro r w1 ⟨-,-,hr,hb1⟩;have hr2:=hr k rfl;subst hr2;have hw1:=HB0.out.trans (hb1.mono HB0.out.size);clear hr hb1;go_wp2_with fail
  exact ⟨rfl,Zp.no hw1⟩
 | ok o=>
  cases o with
  | none=>
   show Calls _ _ _ _ λr w'=>Zp w r w' (.ok [bN false]);go_enter Tryz.func89,Tryz.ntmps89
   go_wp2_with fail
   refine HR.out.mono ?_;rintro r w1 ⟨-,hr,-,hb1⟩;have hr2:=hr rfl;subst hr2;have hw1:=HB0.out.trans (hb1.mono HB0.out.size);have e0:=(hb1.cell (p:=⟨w.heap.size,0,none⟩) HLT0.out).trans ev0;have HW1:=Ld hw1;clear hr hb1 ev0 ev2 hw1;go_wp2_with fail
   refine (Xt false w1).mono ?_;rintro r w2 hnew;have HN:=Ld (X3.from hnew HW1.out);obtain ⟨A2,c2,rfl,-⟩:=hnew;clear e0;go_wp2_with fail
   go_ret
   exact Zp.ok HN.out
  | some u=>
   show Calls _ _ _ _ λr w'=>Zp w r w' (match Js u ns with | .ok _=>.ok [bN true] | .bad _=>.ok [bN false]);have HG:Hid ((match Js u ns with | .ok _=>.ok [bN true] | .bad _=>.ok [bN false]:Rs (List Nd))=.ok [bN (rsE (Js u ns)==0)]):=by
    show _=_;cases hg:Js u ns with
    | ok _=>rfl
    | bad k=>
     have hb:(k==0)=false:=(by simpa using Zjl hg);show Rs.ok [bN false]=Rs.ok [bN (k==0)];rw [hb]
   rw [HG.out];obtain ⟨k,hk⟩:∃k,rsE (Js u ns)=k:=⟨_,rfl⟩;rw [hk];have HKK:=Ld hk;clear hk HG;go_enter Tryz.func89,Tryz.ntmps89
   go_wp2_with fail
   refine HR.out.mono ?_;rintro r w1 ⟨hr,-,-,hb1⟩;obtain ⟨A1,c1,hr2,hu,hui⟩:=hr u rfl;subst hr2;have hw1:=HB0.out.trans (hb1.mono HB0.out.size);have e0:=(hb1.cell (p:=⟨w.heap.size,0,none⟩) HLT0.out).trans ev0;have e2:=(hb1.cell (p:=⟨w.heap.size,2,none⟩) HLT0.out).trans ev2;have HW1:=Ld hw1;have HGT:=Ld (Zsu u ns A1 c1 w1 hu.le hu.max hu.nd hu.sl);rw [HKK.out] at HGT;obtain ⟨y,yr,b,o,-,rfl,-⟩:=hu.head;clear hr hb1 ev0 ev2 hw1 hu hui;go_wp2_with fail
   refine HGT.out.mono ?_;rintro r w2 ⟨A2,c2,rfl,-,-,-,hb2,-⟩;have HW2:=Ld (HW1.out.trans (hb2.mono HW1.out.size));clear hb2 e0 e2;go_wp2_with fail
   refine (Xt (k==0) w2).mono ?_;rintro r w3 hnew;have HN:=Ld (X3.from hnew HW2.out);obtain ⟨A3,c3,rfl,-⟩:=hnew;go_wp2_with fail
   go_ret
   exact Zp.ok HN.out
theorem Zrs (x:Evl)(xb i:Nat)(nn:Int)(ns nt:ByteArray)(v:List Nd)(A:Option Addr)(c:Nat)(w:World)(hx:V0 x xb w)(hB:Blk w xb 99 (x.cells i))(hv:Yr v A c w)(hvi:NdI v) :
 Calls Tryz.prog 89 #[.pointer (some ⟨xb,0,none⟩),.agg #[.int .i64 22,.int .i64 nn,.string ns,.string nt],.slice A v.length c] w λr w'=>Zp w r w' (Yc x.es ⟨22,nn,ns,nt⟩ v):=by
 have hb0:RowKit.Below w.heap.size w (w.alloc (.cells #[.int .i64 22,.int .i64 nn,.string ns,.string nt] 37)):=by (repeat (first | assumption | exact bR | apply bD | apply Za | refine bA ?_ _))
 have hxb:=hB.lt;have HR:=Ld (Zge x xb i v A c _ (hx.keep (hb0.mono (Nat.le_of_lt hxb))) (hB.below hb0 hxb) (hv.later hb0) hvi);have HERR:=Ld (λW (hW:RowKit.Below w.heap.size w W)=>hx.err.below hW hx.err.lt);rw [Zgq (by omega)];have HBK:=Ld (λk (h:K8 x.es v=.bad k)=>Zfo h);generalize K8 x.es v=q at HR HBK ⊢;have ev0:(w.alloc (.cells #[.int .i64 22,.int .i64 nn,.string ns,.string nt] 37)).cell? ⟨w.heap.size,0,none⟩=some (.int .i64 22):=by simp [World.cell?_alloc_new]
 have ev2:(w.alloc (.cells #[.int .i64 22,.int .i64 nn,.string ns,.string nt] 37)).cell? ⟨w.heap.size,2,none⟩=some (.string ns):=by simp [World.cell?_alloc_new]
 have hlt0:w.heap.size < (w.alloc (.cells #[.int .i64 22,.int .i64 nn,.string ns,.string nt] 37)).heap.size:=by simp
 have HLT0:=Ld hlt0;have heq:=Zkq;have HB0:=Ld hb0;clear hx hB hv hvi hb0 hlt0;cases q with
 | bad k=>
  show Calls _ _ _ _ λr w'=>Zp w r w' (.bad k);go_enter Tryz.func89,Tryz.ntmps89
  go_wp2_with fail
  refine HR.out.mono ?_;rintro r w1 ⟨-,-,hr,hb1⟩;have hr2:=hr k rfl;subst hr2;have hw1:=HB0.out.trans (hb1.mono HB0.out.size);clear hr hb1;go_wp2_with fail
  exact ⟨rfl,Zp.no hw1⟩
 | ok o=>
  cases o with
  | none=>
   show Calls _ _ _ _ λr w'=>Zp w r w' (.bad 8);go_enter Tryz.func89,Tryz.ntmps89
   go_wp2_with fail
   refine HR.out.mono ?_;rintro r w1 ⟨-,hr,-,hb1⟩;have hr2:=hr rfl;subst hr2;have hw1:=HB0.out.trans (hb1.mono HB0.out.size);have e0:=(hb1.cell (p:=⟨w.heap.size,0,none⟩) HLT0.out).trans ev0;have HW1:=Ld hw1;clear hr hb1 ev0 ev2 hw1;go_wp2_with fail
   exact ⟨rfl,Zp.no HW1.out⟩
  | some u=>
   show Calls _ _ _ _ λr w'=>Zp w r w' (Js u ns);have HGB:=Ld (λk (h:Js u ns=.bad k)=>Zjl h);obtain ⟨g,hg⟩:∃g,Js u ns=g:=⟨_,rfl⟩;rw [hg] at HGB ⊢;have HGG:=Ld hg;clear hg;go_enter Tryz.func89,Tryz.ntmps89
   go_wp2_with fail
   refine HR.out.mono ?_;rintro r w1 ⟨hr,-,-,hb1⟩;obtain ⟨A1,c1,hr2,hu,hui⟩:=hr u rfl;subst hr2;have hw1:=HB0.out.trans (hb1.mono HB0.out.size);have e0:=(hb1.cell (p:=⟨w.heap.size,0,none⟩) HLT0.out).trans ev0;have e2:=(hb1.cell (p:=⟨w.heap.size,2,none⟩) HLT0.out).trans ev2;have HW1:=Ld hw1;have HGT:=Ld (Zsu u ns A1 c1 w1 hu.le hu.max hu.nd hu.sl);obtain ⟨y,yr,b,o,-,rfl,-⟩:=hu.head;rw [HGG.out] at HGT;clear hr hb1 ev0 ev2 hw1 hu hui;go_wp2_with fail
   refine HGT.out.mono ?_;rintro r w2 ⟨A2,c2,rfl,h1,h2,h3,hb2,h4⟩;have HW2:=Ld (HW1.out.trans (hb2.mono HW1.out.size));have H3:=Ld h3;have H4:=Ld h4;have H1:=Ld h1;clear hb2 e0 e2 h3 h4 h1;go_wp2_with fail
   refine (Zji (.slice A2 (rsL g).length c2) (rsE g) w2 (HERR.out w2 HW2.out)).mono ?_;rintro r w3 ⟨hr,hb3⟩;have HW3:=Ld (HW2.out.trans (hb3.mono HW2.out.size));cases g with
   | ok z=>
    have hr2:=hr.1 rfl;subst hr2;have hz1:=HW1.out.size;have HN:Hid (X3 w (.returned (.slice A2 z.length c2)) w3 z):=⟨A2,c2,rfl,H1.out,h2,(H3.out.below hb3).more hb3.size,HW3.out,λb o e=>by have:=H4.out b o e;omega⟩;clear hr hb3;go_wp2_with fail
    go_ret
    exact Zp.ok HN.out
   | bad k=>
    have hr2:=hr.2 (HGB.out k rfl);subst hr2;clear hr hb3;go_wp2_with fail
    exact ⟨rfl,Zp.no HW3.out⟩
theorem U3 (x:Evl)(xb i:Nat)(n:Nd)(v:List Nd)(A:Option Addr)(c:Nat)(w:World)(hx:V0 x xb w)(hB:Blk w xb 99 (x.cells i))(hv:Yr v A c w)(hvi:NdI v)(hns:n.s.size<=140737488351232)
 (ho:n.op=9\/n.op=10\/n.op=21\/n.op=22\/n.op=23\/n.op=24) :
 Calls Tryz.prog 89 #[.pointer (some ⟨xb,0,none⟩),.agg #[.int .i64 n.op,.int .i64 n.n,.string n.s,.string n.t],.slice A v.length c] w λr w'=>Zp w r w' (Yc x.es n v):=by
 obtain ⟨op,nn,ns,nt⟩:=n;simp only at ho hns ⊢;rcases ho with rfl | rfl | rfl | rfl | rfl | rfl
 . exact Zr2 xb nn ns nt v A c w x.es hv
 . exact Zry xb nn ns nt v A c w x.es hv hvi hx.err
 . exact Zrv x xb i nn ns nt v A c w hx hB hv hvi
 . exact Zrs x xb i nn ns nt v A c w hx hB hv hvi
 . exact Zok xb nn ns nt v A c w x.es hv hx.err hns
 . exact Zvp xb nn ns nt v A c w x.es hv
end Go.Proofs.YtpheiojmcafolaaGreatDoor
