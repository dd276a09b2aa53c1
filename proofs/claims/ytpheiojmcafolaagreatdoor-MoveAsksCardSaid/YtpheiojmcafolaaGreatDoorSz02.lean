/-
 THE WALKS: the reader of a value's nodes.
-/
import Derived.Test.YtpheiojmcafolaaGreatDoorSz01
import Derived.BigQuiet
import Derived.Deep.Slices
import Derived.Deep.Fields
import Derived.ChangeSame
import Derived.SizedLaws
import Derived.ProofKit
import Derived.Sort.Walk0
import Derived.Sort.Statements
import Derived.Shelf.SlSortCmp.Insertion
set_option maxRecDepth 100000
set_option maxHeartbeats 25600000
namespace Go.Proofs.YtpheiojmcafolaaGreatDoor
open Go.RowKit
def rdr (A:Option Addr)(n c i:Nat):Array Value:=#[.slice A n c,.int .i64 i]
def Zr9:List PanicEntry:=[{ v:=.iface 157 (.agg #[]),recovered:=false }]
theorem Zcb {w:World}{rb:Nat}{A:Option Addr}{n c i:Nat}{T:TypeId}(h:Blk w rb T (rdr A n c i)):Blk (w.setCell ⟨rb,1,none⟩ (.int .i64 ((i:Int)+1))) rb T (rdr A n c (i+1)):=h.set 1 _
theorem Ye.only {w w':World}{B rb:Nat}{A:Option Addr}{xs:List Nd}(h:Ye w rb A xs)(ho:Yk B rb w w')(hB:rb<=B):Ye w' rb A xs:=h.keep λp hp=>ho.cell (by omega) (by omega)
theorem Ye.piece {w:World}{B b o:Nat}{e:List Nd}(h:Ye w B (some ⟨b,o,none⟩) e)(i j:Nat):Ye w B (some ⟨b,o+i*4,none⟩) (piece e i j):=λhne=>by
 have he:e≠[]:=by rintro rfl;simp [Proofs.YtpheiojmcafolaaGreatDoor.piece] at hne
 obtain ⟨b',o',h1,hb,hc⟩:=h he;injection h1 with h1;injection h1 with h1 h2;subst h1 h2
 refine ⟨b,o+i*4,rfl,hb,λk x hx=>?_⟩;have:=hc (i+k) x (by
  simp only [Proofs.YtpheiojmcafolaaGreatDoor.piece,List.getElem?_take] at hx;split at hx
  . rwa [List.getElem?_drop] at hx
  . cases hx)
 rwa [show o+i*4+k*4=o+(i+k)*4 from by omega]
def Zbw (e:List Nd)(f i:Nat):Prop:=∀(w:World) (rb:Nat) (A:Option Addr) (c:Nat),2*(e.length - i)<=f->i<=e.length->e.length<=c->c<=9223372036854775807->Y0 e ->
 Blk w rb 160 (rdr A e.length c i)->Ye w rb A e ->
 (∀j,vGo e f .one i=some j->Calls Tryz.prog 96 #[.pointer (some ⟨rb,0,none⟩)] w λr w'=>∃A' c',r=.returned (.slice A' (piece e i j).length c')/\Ye w' rb A' (piece e i j)/\Blk w' rb 160 (rdr A e.length c j)/\Yk w.heap.size rb w w') /\
 (vGo e f .one i=none->Calls Tryz.prog 96 #[.pointer (some ⟨rb,0,none⟩)] w λr w'=>r=.panicked Zr9/\Yk w.heap.size rb w w')
set_option maxRecDepth 100000 in
theorem Zyr (e:List Nd)(f i:Nat)(h:e.length<=i):Zbw e f i:=by
 intro w rb A c hf hi hc hcm hok hblk hsl;have hrb:=hblk.lt;have k0:w.cell? ⟨rb,0,none⟩=some (.slice A e.length c):=hblk.cell 0;have k1:w.cell? ⟨rb,1,none⟩=some (.int .i64 i):=hblk.cell 1;have z1:w.frozen? ⟨rb,1,none⟩=false:=hblk.frozen 1;have HN:Hid (e[i]? = none):=List.getElem?_eq_none h;have HB:=Ld hblk;have HS:=Ld hsl;clear hblk hsl;refine ⟨λj hj=>?_,λhj=>?_⟩
 . have hn:=HN.out;cases f <;> simp [vGo,hn] at hj
 . clear hj;go_enter Tryz.func96,Tryz.ntmps96
   go_wp2_with fail
   exact ⟨rfl,rfl,Yk.refl _ _ _⟩
set_option maxRecDepth 100000 in
theorem Zxp (e:List Nd)(f i:Nat)(x:Nd)(hx:e[i]? = some x)(hsh:Zj x=false):Zbw e (f+1) i:=by
 intro w rb A c hf hi hc hcm hok hblk hsl;have hrb:=hblk.lt;have k0:w.cell? ⟨rb,0,none⟩=some (.slice A e.length c):=hblk.cell 0;have k1:w.cell? ⟨rb,1,none⟩=some (.int .i64 i):=hblk.cell 1;have z1:w.frozen? ⟨rb,1,none⟩=false:=hblk.frozen 1;have hil:i < e.length:=(List.getElem?_eq_some_iff.1 hx).1;obtain ⟨b,o,rfl,hb,hcs⟩:=hsl.at_ hil;obtain ⟨d0,d1,d2,d3⟩:=hcs i x hx;obtain ⟨hxs,hxt⟩:=hok x (mG hx);have hbw:b < w.heap.size:=by omega
 have HX:=Ld hx;have HB:=Ld hblk;have HS:=Ld hsl;have HOK:=Ld hok;clear hx hblk hsl hcs hok;refine ⟨λj hj=>?_,λhj=>?_⟩
 . have hn:=HX.out;simp [vGo,hn,hsh] at hj
 . clear hj;go_enter Tryz.func96,Tryz.ntmps96
   go_wp2_with (go_at_call 129;refine (J5 x.op x.n x.s x.t _ hxs hxt).mono ?_;rintro r w1 ⟨rfl,hb1⟩)
   exact ⟨rfl,rfl,Yk.of_below hb1 (nL _)⟩
set_option maxRecDepth 100000 in
theorem Zzn (e:List Nd)(f i:Nat)(x:Nd)(hx:e[i]? = some x)(hsh:Zj x=true)(hop:x.op=7):Zbw e (f+1) i:=by
 intro w rb A c hf hi hc hcm hok hblk hsl;have hrb:=hblk.lt;have k0:w.cell? ⟨rb,0,none⟩=some (.slice A e.length c):=hblk.cell 0;have k1:w.cell? ⟨rb,1,none⟩=some (.int .i64 i):=hblk.cell 1;have z1:w.frozen? ⟨rb,1,none⟩=false:=hblk.frozen 1;have hil:i < e.length:=(List.getElem?_eq_some_iff.1 hx).1;obtain ⟨b,o,rfl,hb,hcs⟩:=hsl.at_ hil;obtain ⟨d0,d1,d2,d3⟩:=hcs i x hx;obtain ⟨hxs,hxt⟩:=hok x (mG hx);have hbw:b < w.heap.size:=by omega
 have HX:=Ld hx;have HB:=Ld hblk;have HS:=Ld hsl;have HOK:=Ld hok;clear hx hblk hsl hcs hok;refine ⟨λj hj=>?_,λhj=>?_⟩
 . have hn:=HX.out;simp [vGo,hn,hsh,hop] at hj
 . clear hj;have HOP:=Ld hop;have p5:(x.op==5)=false:=by simp [hop]
   have p6:(x.op==6)=false:=by simp [hop]
   have p7:(x.op==7)=true:=by simp [hop]
   clear hop;go_enter Tryz.func96,Tryz.ntmps96
   go_wp2_with (go_at_call 129;refine (J5 x.op x.n x.s x.t _ hxs hxt).mono ?_;rintro r w1 ⟨rfl,hb1⟩;obtain ⟨hcc,hff⟩:=Xi hb1;have g1:rb < w1.heap.size:=Nat.lt_of_lt_of_le hrb hb1.size)
   have o1:=Yk.of_below (g:=rb) hb1 (nL _);have hz1:=hb1.size;exact ⟨rfl,rfl,by (repeat (first | assumption | exact Yk.refl _ _ _ | apply Yk.drew | apply Yk.drewN | (refine Yk.alloc ?_ (by first | exact nL _ | omega | (simp;done) | (simp;omega)) _) | (refine Yk.setCell ?_ (by first | exact .inl rfl | exact .inr (nL _) | exact .inr (by first | omega | (simp;omega))) _)))⟩
set_option maxRecDepth 100000 in
theorem Zuj (e:List Nd)(f i:Nat)(x:Nd)(hx:e[i]? = some x)(hsh:Zj x=true)(h5:¬x.op=5)(h6:¬x.op=6)(h7:¬x.op=7):Zbw e (f+1) i:=by
 intro w rb A c hf hi hc hcm hok hblk hsl;have hrb:=hblk.lt;have k0:w.cell? ⟨rb,0,none⟩=some (.slice A e.length c):=hblk.cell 0;have k1:w.cell? ⟨rb,1,none⟩=some (.int .i64 i):=hblk.cell 1;have z1:w.frozen? ⟨rb,1,none⟩=false:=hblk.frozen 1;have hil:i < e.length:=(List.getElem?_eq_some_iff.1 hx).1;obtain ⟨b,o,rfl,hb,hcs⟩:=hsl.at_ hil;obtain ⟨d0,d1,d2,d3⟩:=hcs i x hx;obtain ⟨hxs,hxt⟩:=hok x (mG hx);have hbw:b < w.heap.size:=by omega
 have HX:=Ld hx;have HB:=Ld hblk;have HS:=Ld hsl;have HOK:=Ld hok;clear hx hblk hsl hcs hok;have HV:Hid (vGo e (f+1) .one i=some (i+1)):=by
  have hn:=HX.out;show _=_;simp [vGo,hn,hsh,h5,h6,h7]
 refine ⟨λj hj=>?_,λhj=>?_⟩
 . have hji:j=i+1:=by rw [HV.out] at hj;injection hj with hj;exact hj.symm
   subst hji;clear hj;have p5:(x.op==5)=false:=by simp [h5]
   have p6:(x.op==6)=false:=by simp [h6]
   have p7:(x.op==7)=false:=by simp [h7]
   go_enter Tryz.func96,Tryz.ntmps96
   go_wp2_with (go_at_call 129;refine (J5 x.op x.n x.s x.t _ hxs hxt).mono ?_;rintro r w1 ⟨rfl,hb1⟩;obtain ⟨hcc,hff⟩:=Xi hb1;have g1:rb < w1.heap.size:=Nat.lt_of_lt_of_le hrb hb1.size)
   go_quiet (fail)
   go_wp2
   go_ret
   have o1:=Yk.of_below (g:=rb) hb1 (nL _);have hz1:=hb1.size;have o2:Yk w.heap.size rb w (((w1.setCell ⟨rb,1,none⟩ (.int .i64 ((i:Int)+1))).alloc (.cells #[.int .i64 x.op,.int .i64 x.n,.string x.s,.string x.t] 37))):=by (repeat (first | assumption | exact Yk.refl _ _ _ | apply Yk.drew | apply Yk.drewN | (refine Yk.alloc ?_ (by first | exact nL _ | omega | (simp;done) | (simp;omega)) _) | (refine Yk.setCell ?_ (by first | exact .inl rfl | exact .inr (nL _) | exact .inr (by first | omega | (simp;omega))) _)))
   refine ⟨some ⟨b,o+i*4,none⟩,c - i,by rw [Zfj hil,show i+1 - i=1 from by omega];rfl,?_,?_,?_⟩
   . exact ((HS.out.piece i (i+1)).only (o2.drewN _) (Nat.le_of_lt hrb))
   . exact ((Zcb (HB.out.below hb1 hrb)).alloc _).drewN _
   . exact o2.drewN _
 . have hn:=HV.out;rw [hj] at hn;cases hn
end Go.Proofs.YtpheiojmcafolaaGreatDoor
namespace Go.Proofs.YtpheiojmcafolaaGreatDoor
open Go.ChangeShapes Go.WideShapes Go.RowKit Go.Deep
section
variable {H : Type} {enc : TypeId × Value -> H} {W : World}
theorem Zpy {α:Type}{en:α->List Value}{k:Nat}{data:α->DataW H}{Good:α->Prop}{t e:TypeId}(ht:Tryz.prog.underlying t=some (.slice e))(ce:Tryz.prog.cellsOf e=k)(he:Kh en k)
 (hel:∀n cs y,DataW.trod enc Tryz.prog W 0 (λ_=>true) true n e cs=some y->∃x,cs=en x/\y.1=data x/\Good x) {fuel:Nat} {cs:List Value} {y:DataW H × List MemPlace}
 (hf:DataW.trod enc Tryz.prog W 0 (λ_=>true) true fuel t cs=some y) :
 ∃(A:Option Addr) (xs:List α) (c:Nat),cs = [.slice A xs.length c]/\xs.length<=c/\c<=9223372036854775807/\SlG en k W W.heap.size A xs/\(∀x∈xs,Good x)/\(xs = []\/∃sp,y.1=.slice (xs.map data) sp):=by
 rcases open_slice ht hf with ⟨hcs,_⟩ | ⟨a,len',cap',m,n,D,Pl,hcs,_,hl,hm,hmm,hx,hi⟩
 . exact ⟨none,[],0,hcs,by simp,by omega,SlG.nil _ _ _,by simp,.inl rfl⟩
 . simp only [if_true] at hmm;subst hmm;have hel':∀i,i < m->∃x:α,D i=data x/\Good x/\∀j u,(en x)[j]? = some u->W.cell? (a.add (i*k+j))=some u:=by
    intro i him;obtain ⟨cs',hc,ht'⟩:=hi i him;rw [ce] at hc;obtain ⟨x,rfl,hd,hg⟩:=hel _ _ _ ht';refine ⟨x,hd,hg,λj u hu=>?_⟩;obtain ⟨_,_,hat⟩:=World.cells?_some hc;have hj:j < k:=(by have:=(List.getElem?_eq_some_iff.1 hu).1;rwa [he.len] at this);have:=hat j hj;rw [add_add] at this;rw [this,hu]
   have hxs:∀r,r<=m->∃xs:List α,xs.length=r/\(List.range r).map D=xs.map data/\(∀x∈xs,Good x)/\∀i x,xs[i]? = some x->∀j u,(en x)[j]? = some u->W.cell? (a.add (i*k+j))=some u:=by
    intro r;induction r with
    | zero=>intro _;exact ⟨[],rfl,rfl,by simp,λi x hx=>by simp at hx⟩
    | succ r ih=>
     intro hk;obtain ⟨xs,h1,h2,h3,h4⟩:=ih (by omega);obtain ⟨x,hd,hg,hc⟩:=hel' r (by omega);refine ⟨xs ++ [x],by simp [h1],by rw [List.range_succ,List.map_append,List.map_append,h2];simp [hd],λz hz=>?_,λi y hy=>?_⟩
     . rcases List.mem_append.1 hz with hz | hz
       . exact h3 z hz
       . rw [List.mem_singleton] at hz;subst hz;exact hg
     . rcases Nat.lt_or_ge i xs.length with hlt | hge
       . rw [List.getElem?_append_left hlt] at hy;exact h4 i y hy
       . have:i=xs.length:=by
          have:=(List.getElem?_eq_some_iff.1 hy).1;simp at this;omega
         subst this;simp at hy;subst hy;rw [h1];exact hc
   obtain ⟨xs,h1,h2,h3,h4⟩:=hxs len' hl;subst h1;refine ⟨some a,xs,m,hcs,hl,by unfold maxLen at hm;omega,λhne=>?_,h3,.inr ⟨_,by rw [hx,<-h2]⟩⟩;have h0:0 < xs.length:=List.length_pos_iff.2 hne;have hen:0 < (en xs[0]).length:=by rw [he.len];exact he.pos
   have hc0:=h4 0 xs[0] (gE h0) 0 _ (gE hen);have hsp:a.spot=none:=by
    cases hs:a.spot with
    | none=>rfl
    | some q=>
     simp [World.cell?,Addr.add,hs] at hc0;split at hc0 <;> simp at hc0
   obtain ⟨b,o,sp⟩:=a;simp only at hsp;subst hsp;simp only [Vs] at h4 hc0;refine ⟨b,o,rfl,World.block_lt_of_cell? W _ hc0,λi x hx j u hu=>?_⟩;rw [Nat.add_assoc];exact h4 i x hx j u hu
theorem Zgp {P:Program}{e:TypeId}{d:DataW H}{n:Nat}:∀{l:List (DataW H)},d∈l->n∈d.weights P e->n∈DataW.weightsAll P e l
 | [],h,_=>by cases h
 | x :: l,h,hn=>by
  simp only [DataW.weightsAll,List.mem_append];rcases List.mem_cons.1 h with rfl | h
  . exact .inl hn
  . exact .inr (Zgp h hn)
theorem Uq {t e:TypeId}(ht:Tryz.prog.underlying t=some (.slice e)){xs sp:List (DataW H)}{d:DataW H}{n:Nat}(hx:d∈xs)(hn:n∈d.weights Tryz.prog e) :
 n∈(DataW.slice xs sp).weights Tryz.prog t:=by
 simp only [DataW.weights,ht,List.mem_cons,List.mem_append];exact .inr (.inl (Zgp hx hn))
end
end Go.Proofs.YtpheiojmcafolaaGreatDoor
namespace Go.Proofs.YtpheiojmcafolaaGreatDoor
open Go.ChangeShapes Go.WideShapes Go.ChangeAt Go.RowKit Go.WideMaps
theorem Tryz.own:ownKnob Tryz.prog.godebug=none:=by kernel_rfl
theorem Tryz.laidOut:laidOutB Tryz.prog=true:=by kernel_rfl
end Go.Proofs.YtpheiojmcafolaaGreatDoor
namespace Go.Proofs.YtpheiojmcafolaaGreatDoor
open Go.ChangeShapes Go.WideShapes Go.RowKit Go.Deep
def Zg3 {H:Type}(x:Nd):DataW H:=.agg [.lit (.int .i64 x.op),.lit (.int .i64 x.n),.lit (.string x.s.data.toList),.lit (.string x.t.data.toList)]
theorem Zh9:Tryz.prog.cellsOf 37=4:=by kernel_rfl
section
variable {H : Type} {enc : TypeId × Value -> H} {W : World}
theorem Zwx {base:Nat}{spare:Nat->Bool}{held:Bool}{n:Nat}{cs:List Value}{y:DataW H × List MemPlace}(h:DataW.trod enc Tryz.prog W base spare held n 37 cs=some y) :
 ∃x:Nd,cs=x.cells/\y.1=Zg3 x:=by
 obtain ⟨xs,m,_,hy,hlen,hxl,hf⟩:=DataW.trod_struct Tryz.underlying37 h;rw [Zh9] at hlen;match cs,hlen with
 | [c0,c1,c2,c3],_=>
  match xs,hxl with
  | [y0,y1,y2,y3],_=>
   have e0:DataW.trod enc Tryz.prog W base spare held m 3 (([c0,c1,c2,c3].drop 0).take (Tryz.prog.cellsOf 3))=some y0:=hf 0 _ rfl;have e1:DataW.trod enc Tryz.prog W base spare held m 3 (([c0,c1,c2,c3].drop 1).take (Tryz.prog.cellsOf 3))=some y1:=hf 1 _ rfl;have e2:DataW.trod enc Tryz.prog W base spare held m 9 (([c0,c1,c2,c3].drop 2).take (Tryz.prog.cellsOf 9))=some y2:=hf 2 _ rfl;have e3:DataW.trod enc Tryz.prog W base spare held m 9 (([c0,c1,c2,c3].drop 3).take (Tryz.prog.cellsOf 9))=some y3:=hf 3 _ rfl;have k3:Tryz.prog.cellsOf 3=1:=(by kernel_rfl);have k9:Tryz.prog.cellsOf 9=1:=(by kernel_rfl);simp only [k3,k9,List.drop_zero,List.drop_succ_cons,List.take_succ_cons,List.take_zero] at e0 e1 e2 e3;obtain ⟨a0,q0,r0,_⟩:=DataW.trod_int Tryz.underlying3 e0;obtain ⟨a1,q1,r1,_⟩:=DataW.trod_int Tryz.underlying3 e1;obtain ⟨a2,q2,r2,_⟩:=DataW.trod_string Tryz.underlying9 e2;obtain ⟨a3,q3,r3,_⟩:=DataW.trod_string Tryz.underlying9 e3;simp only [List.cons.injEq,and_true] at q0 q1 q2 q3;subst q0 q1 q2 q3 r0 r1 r2 r3;exact ⟨⟨a0,a1,a2,a3⟩,rfl,by rw [hy];rfl⟩
end
end Go.Proofs.YtpheiojmcafolaaGreatDoor
namespace Go.Proofs.YtpheiojmcafolaaGreatDoor
open Go.ChangeShapes Go.WideShapes Go.ChangeAt Go.RowKit Go.WideMaps
end Go.Proofs.YtpheiojmcafolaaGreatDoor
namespace Go.Proofs.YtpheiojmcafolaaGreatDoor
open Go.RowKit
def Xf (p:List Nd):ByteArray:=(p.head?.map Nd.s).getD ⟨#[]⟩
def Va:Nat->List Nd->List (List Nd)
 | 0,_=>[]
 | _+1,[]=>[]
 | k+1,x :: l=>
  match skP (x :: l) 1 0 with
  | some j=>(x :: l).take j :: Va k ((x :: l).drop j)
  | none=>[]
def ExK:Bool->ByteArray->List (List Nd)->Prop
 | _,_,[]=>True
 | r,l,p :: ps=>Ex (.one r) p/\(r=true->Ql l (Xf p)=false)/\ExK r (if r=true then Xf p else l) ps
theorem Jb {b:Bool}{p:List Nd}(h:Ex (.one b) p):∃x xs,p=x :: xs/\Zx x=true/\(x.op==7)=b:=by
 cases h with
 | one n body fld hs h7 hb=>exact ⟨n,body,rfl,hs,h7⟩
theorem J8 {t:Zgd}{xs:List Nd}(h:Ex t xs):match t with
 | .one _=>True
 | .more c r l=>∃ps:List (List Nd),ps.length=c/\xs=ps.flatten/\ExK r l ps:=by
 induction h with
 | one n body fld hs h7 hb ih=>trivial
 | nil r l=>exact ⟨[],rfl,rfl,trivial⟩
 | cons c r l m xs ys hl hx hy ih1 ih2=>
  obtain ⟨ps,h1,h2,h3⟩:=ih2;exact ⟨(m :: xs) :: ps,by simp [h1],by rw [List.flatten_cons,<-h2],hx,hl,h3⟩
theorem Qe:∀(ps:List (List Nd)) (r:Bool) (l:ByteArray),ExK r l ps->Ex (.more ps.length r l) ps.flatten
 | [],r,l,_=>.nil r l
 | p :: ps,r,l,h=>by
  obtain ⟨x,xs,rfl,_,_⟩:=Jb h.1;exact .cons _ r l x xs _ h.2.1 h.1 (Qe ps r _ h.2.2)
theorem Zua {b:Bool}{p:List Nd}(h:Ex (.one b) p)(rest:List Nd):skP (p++rest) 1 0=some p.length:=by
 have hb:=Zfn h [] rest (2*p.length) (by simp);simp only [List.nil_append,List.length_nil,Nat.zero_add] at hb;have:=Zss (p++rest) _ _ _ _ hb 0 (Int.le_refl _);simp only [List.drop_zero,Int.add_zero] at this;rw [this,Zjj]
theorem Zkw:∀(ps:List (List Nd)) (r:Bool) (l:ByteArray),ExK r l ps->∀k,ps.flatten.length<=k->Va k ps.flatten=ps
 | [],r,l,_,k,_=>by cases k <;> rfl
 | p :: ps,r,l,h,k,hk=>by
  obtain ⟨x,xs,rfl,_,_⟩:=Jb h.1;rw [List.flatten_cons,List.length_append,List.length_cons] at hk;match k,hk with
  | 0,hk=>omega
  | k+1,hk=>
   have hs:=Zua h.1 ps.flatten;rw [List.flatten_cons];rw [List.cons_append] at hs ⊢;rw [Va,hs];simp only;rw [<-List.cons_append,List.take_left,List.drop_left,Zkw ps r _ h.2.2 k (by omega)]
theorem Jq:∀{ps:List (List Nd)} {r:Bool} {l:ByteArray},ExK r l ps->∀p∈ps,Ex (.one r) p
 | p :: ps,r,l,h,q,hq=>by
  rcases List.mem_cons.1 hq with rfl | hq
  . exact h.1
  . exact Jq h.2.2 q hq
theorem Zct:∀{ps:List (List Nd)} {l:ByteArray},(∀p∈ps,Ex (.one false) p)->ExK false l ps
 | [],_,_=>trivial
 | p :: ps,l,h=>⟨h p (by simp),by simp,Zct λq hq=>h q (by simp [hq])⟩
theorem Ztu (l s:ByteArray):Ql l s=false ↔ l.toList < s.toList:=by
 unfold Ql;rw [bytesLess_eq];constructor
 . intro h;simp only [Bool.or_eq_false_iff,decide_eq_false_iff_not,beq_eq_false_iff_ne] at h;by_cases h1:l.toList < s.toList
   . exact h1
   . rcases Zcf (List.not_lt.1 h1) with h2 | h2
     . exact absurd h2 h.1
     . exact absurd h2 h.2
 . intro h;simp only [Bool.or_eq_false_iff,decide_eq_false_iff_not,beq_eq_false_iff_ne];exact ⟨List.lt_asymm h,λe=>List.lt_irrefl _ (e ▸ h)⟩
def Zi (ps:List (List Nd)):List (List UInt8):=ps.map λp=>(Xf p).toList
theorem Zni:∀{ps:List (List Nd)} {l:ByteArray},ExK true l ps->(Zi ps).Pairwise (· < ·)/\∀s∈Zi ps,l.toList < s
 | [],l,_=>⟨List.Pairwise.nil,by simp [Zi]⟩
 | p :: ps,l,h=>by
  have h2:=(Ztu _ _).1 (h.2.1 rfl);have ih:=Zni (l:=Xf p) (by simpa using h.2.2);refine ⟨List.Pairwise.cons ih.2 ih.1,?_⟩;intro s hs;rcases List.mem_cons.1 hs with rfl | hs
  . exact h2
  . exact List.lt_trans h2 (ih.2 s hs)
theorem Zf8:∀{ps:List (List Nd)} {l:ByteArray},(∀p∈ps,Ex (.one true) p)->(Zi ps).Pairwise (· < ·)->(∀s∈Zi ps,l.toList < s)->ExK true l ps
 | [],_,_,_,_=>trivial
 | p :: ps,l,h,hp,hl=>by
  have hp':=List.pairwise_cons.1 hp;exact ⟨h p (by simp),λ_=>(Ztu _ _).2 (hl _ (by simp [Zi])),Zf8 (λq hq=>h q (by simp [hq])) hp'.2 hp'.1⟩
def Xp (ps:List (List Nd)):List (List Nd):=ps.mergeSort λa b=>decide ((Xf a).toList<=(Xf b).toList)
theorem Zn (ps:List (List Nd)):(Xp ps).Perm ps:=List.mergeSort_perm _ _
theorem Zaw {ps:List (List Nd)}(h:(Zi ps).Nodup):(Zi (Xp ps)).Pairwise (· < ·):=by
 have h1:(Xp ps).Pairwise λa b=>decide ((Xf a).toList<=(Xf b).toList)=true:=List.pairwise_mergeSort
  (by intro a b c h1 h2;simp only [decide_eq_true_eq] at h1 h2 ⊢;exact List.le_trans h1 h2)
  (by intro a b;simp only [Bool.or_eq_true,decide_eq_true_eq];exact List.le_total _ _) _
 have h2:(Zi (Xp ps)).Nodup:=((Zn ps).map _).nodup_iff.2 h;unfold Zi at h2 ⊢;rw [List.pairwise_map];rw [List.Nodup,List.pairwise_map] at h2;refine (h1.and h2).imp ?_;rintro a b ⟨h3,h4⟩;simp only [decide_eq_true_eq] at h3;rcases Zcf h3 with h | h
 . exact h
 . exact absurd h h4
theorem Zh5:∀{ps qs:List (List Nd)},(Zi ps).Pairwise (· < ·)->(Zi qs).Pairwise (· < ·)->ps.Perm qs->ps=qs
 | [],qs,_,_,h=>(List.Perm.nil_eq h)
 | p :: ps,[],_,_,h=>absurd h.symm (λh=>by have:=List.Perm.nil_eq h;cases this)
 | p :: ps,q :: qs,hp,hq,h=>by
  have hp':=List.pairwise_cons.1 hp;have hq':=List.pairwise_cons.1 hq;have e:p=q:=by
   rcases List.mem_cons.1 (h.mem_iff.1 (List.mem_cons_self)) with e | h1
   . exact e
   . rcases List.mem_cons.1 (h.mem_iff.2 (List.mem_cons_self (a:=q))) with e | h2
     . exact e.symm
     . have a1:=hp'.1 _ (List.mem_map_of_mem (f:=λp=>(Xf p).toList) h2);have a2:=hq'.1 _ (List.mem_map_of_mem (f:=λp=>(Xf p).toList) h1);exact absurd (List.lt_trans a1 a2) (List.lt_irrefl _)
  subst e;rw [Zh5 hp'.2 hq'.2 (List.Perm.cons_inv h)]
theorem Zzu {ps qs:List (List Nd)}(h:ps.Perm qs)(hn:(Zi ps).Nodup):Xp ps=Xp qs:=
 Zh5 (Zaw hn) (Zaw ((h.map _).nodup_iff.1 hn)) ((Zn ps).trans (h.trans (Zn qs).symm))
structure Mv where
 what:Int
 fr:ByteArray
 to_:ByteArray
def Zq (m:Mv):Int:=if m.what≠1/\m.what≠2 then 1 else if Zf m.fr.toList≠0 then Zf m.fr.toList else Zf m.to_.toList
def Z7 (m:Mv)(x:Nd):Bool:=if x.op=7\/x.op=21\/x.op=22 then m.what==1 else if x.op=4\/x.op=24 then m.what==2 else false
def ren (m:Mv)(x:Nd):Nd:=if Z7 m x=true/\x.s.toList=m.fr.toList then ⟨x.op,x.n,m.to_,x.t⟩ else x
theorem V9 (m:Mv)(x:Nd):(ren m x).op=x.op/\(ren m x).n=x.n/\(ren m x).t=x.t:=by unfold ren;split <;> exact ⟨rfl,rfl,rfl⟩
theorem Zwt (m n:Mv)(x:Nd):Z7 n (ren m x)=Z7 n x:=by unfold Z7;rw [(V9 m x).1]
theorem Z5t (m:Mv)(x:Nd):(ren m x).s=if Z7 m x=true/\x.s.toList=m.fr.toList then m.to_ else x.s:=by unfold ren;split <;> rfl
theorem Zxe {m:Mv}(h:Zq m=0):(m.what=1\/m.what=2)/\Zf m.fr.toList=0/\Zf m.to_.toList=0:=by
 unfold Zq at h;split at h
 . cases h
 . rename_i h1;split at h
   . rename_i h2;exact absurd h h2
   . rename_i h2;exact ⟨by omega,by simpa using h2,h⟩
theorem Zsv {x:Nd}(h:x.op=4):(Zb [x]==0)=Zj x:=by
 unfold Zb;rw [if_neg (by simp)];cases hs:Zj x
 . simp [vGo,hs]
 . simp [vGo,hs,h]
theorem Zcx (m:Mv)(x:Nd):Zl (ren m x)=Zl x:=by unfold Zl;rw [(V9 m x).1,(V9 m x).2.1]
theorem Za8 {m:Mv}(hm:Zq m=0){x:Nd}(h:Zx x=true):Zx (ren m x)=true:=by
 unfold ren;split
 . rename_i hc;have hl:=hc.1;have ht:=(Zxe hm).2.2;unfold Z7 at hl;split at hl
   . rename_i ho;unfold Zx at h ⊢;have e1:¬(x.op=1\/x.op=2\/x.op=3\/x.op=4):=(by omega);have e2:¬(x.op=5\/x.op=6):=(by omega);have e3:¬x.op=8:=(by omega);have e4:x.op=7\/x.op=21\/x.op=22\/x.op=24:=(by omega);rw [if_neg e1,if_neg e2,if_neg e3,if_pos e4] at h ⊢;simp only [Bool.and_eq_true] at h ⊢;exact ⟨h.1,by rw [ht];rfl⟩
   . split at hl
     . rename_i ho;rcases ho with ho | ho
       . unfold Zx at h ⊢;have e1:x.op=1\/x.op=2\/x.op=3\/x.op=4:=(by omega);rw [if_pos e1] at h ⊢;rw [Zsv ho] at h;rw [Zsv (by exact ho)];unfold Zj at h ⊢;simp only [ho] at h ⊢;simp at h ⊢;exact ⟨⟨h.1.1,ht⟩,h.2⟩
       . unfold Zx at h ⊢;have e1:¬(x.op=1\/x.op=2\/x.op=3\/x.op=4):=(by omega);have e2:¬(x.op=5\/x.op=6):=(by omega);have e3:¬x.op=8:=(by omega);have e4:x.op=7\/x.op=21\/x.op=22\/x.op=24:=(by omega);rw [if_neg e1,if_neg e2,if_neg e3,if_pos e4] at h ⊢;simp only [Bool.and_eq_true] at h ⊢;exact ⟨h.1,by rw [ht];rfl⟩
     . cases hl
 . exact h
def Zg9 (m:Mv)(e:List Nd):Bool:=!e.any λx=>Z7 m x && x.s.toList==m.to_.toList
theorem Zli {m:Mv}{e:List Nd}:Zg9 m e=true ↔ ∀x∈e,Z7 m x=true->x.s.toList≠m.to_.toList:=by
 unfold Zg9;simp [List.any_eq_false]
def Zy {α:Type}:List (Option α)->Option (List α)
 | []=>some []
 | none :: _=>none
 | some a :: r=>match Zy r with | none=>none | some l=>some (a :: l)
theorem Qn {α:Type}:∀(l:List α),Zy (l.map some)=some l
 | []=>rfl
 | a :: r=>by rw [List.map_cons,Zy,Qn r]
def Za5 (a b:List Nd):Bool:=decide (Zz a b<=0)
def Je:List Nd->List (List Nd)->List (List Nd)
 | _,[]=>[]
 | a,b :: r=>if Zz a b=0 then Je a r else b :: Je b r
def Zav:List (List Nd)->List (List Nd)
 | []=>[]
 | a :: r=>a :: Je a r
def Yd (ps:List (List Nd)):List (List Nd):=Zav (ps.mergeSort Za5)
def Yb (ps:List (List Nd)):List Nd:=⟨5,(Yd ps).length,⟨#[]⟩,⟨#[]⟩⟩ :: (Yd ps).flatten
def Vl:List (List Nd)->Int
 | []=>0
 | v :: r=>if Zb v≠0 then Zb v else Vl r
def V7 (ps:List (List Nd)):List Nd × Int:=if Vl ps≠0 then ([],Vl ps) else if 200 < (Yb ps).length then ([],4) else (Yb ps,0)
def Zt (m:Mv)(vals:Bool):Nat->List Nd->Option (List Nd)
 | 0,_=>none
 | _+1,[]=>none
 | k+1,x :: body=>
  match Zy ((Va body.length body).map (Zt m vals k)) with
  | none=>none
  | some ps=>if x.op=6 then (if (Zi ps).Nodup then some (ren m x :: (Xp ps).flatten) else none)
   else if x.op=5/\vals=true then some (V7 ps).1 else some (ren m x :: ps.flatten)
theorem Zic (m:Mv)(vals:Bool)(k:Nat)(x:Nd){r:Bool}{l:ByteArray}{ps:List (List Nd)}(h:ExK r l ps):Zt m vals (k+1) (x :: ps.flatten) =
 match Zy (ps.map (Zt m vals k)) with
 | none=>none
 | some qs=>if x.op=6 then (if (Zi qs).Nodup then some (ren m x :: (Xp qs).flatten) else none)
  else if x.op=5/\vals=true then some (V7 qs).1 else some (ren m x :: qs.flatten):=by
 rw [Zt,Zkw ps r l h _ (nL _)]
theorem Qb (x:Nd)(l:List Nd):Xf (x :: l)=x.s:=rfl
theorem Zlj {m:Mv}{ps qs:List (List Nd)}(h1:qs.map List.head? = ps.map λp=>p.head?.map (ren m))(hp:∀p∈ps,∃x xs,p=x :: xs/\x.op=7)(hf:∀p∈ps,∀x∈p,Z7 m x=true->x.s.toList≠m.to_.toList)
 (hn:(Zi ps).Nodup):(Zi qs).Nodup:=by
 have e:Zi qs=ps.map λp=>if m.what=1/\(Xf p).toList=m.fr.toList then m.to_.toList else (Xf p).toList:=by
  have e1:Zi qs=(qs.map List.head?).map λh=>((h.map Nd.s).getD ⟨#[]⟩).toList:=by unfold Zi Xf;rw [List.map_map];rfl
  rw [e1,h1,List.map_map];refine List.map_congr_left λp hp'=>?_;obtain ⟨x,xs,rfl,h7⟩:=hp p hp';show (ren m x).s.toList=_;rw [Z5t,Qb];have hl:Z7 m x=(m.what==1):=by unfold Z7;rw [if_pos (.inl h7)]
  rw [hl];by_cases hw:m.what=1
  . by_cases hs:x.s.toList=m.fr.toList
    . rw [if_pos ⟨by simp [hw],hs⟩,if_pos ⟨hw,hs⟩]
    . rw [if_neg (λh=>hs h.2),if_neg (λh=>hs h.2)]
  . rw [if_neg (by simp [hw]),if_neg (λh=>hw h.1)]
 rw [e];unfold Zi at hn;rw [List.Nodup,List.pairwise_map] at hn ⊢;refine List.Pairwise.imp_of_mem ?_ hn;intro a b ha hb hab;have hto:∀p∈ps,m.what=1->(Xf p).toList≠m.to_.toList:=by
  intro p hp' hw;obtain ⟨x,xs,rfl,h7⟩:=hp p hp';exact hf _ hp' x (by simp) (by unfold Z7;rw [if_pos (.inl h7)];simp [hw])
 split
 . rename_i h3;split
   . rename_i h4;exact absurd (h3.2.trans h4.2.symm) hab
   . exact λe=>hto b hb h3.1 e.symm
 . split
   . rename_i h4;exact hto a ha h4.1
   . exact hab
theorem Z3y {s:List UInt8}(h:Zf s=0):([]:List UInt8) < s:=by
 cases s with
 | nil=>simp [Zf] at h
 | cons a l=>exact List.nil_lt_cons a l
theorem Zjd {x:Nd}(h:Zx x=true)(h7:x.op=7):Zf x.s.toList=0:=by
 unfold Zx at h;rw [if_neg (by omega),if_neg (by omega),if_neg (by omega),if_pos (by omega)] at h;simp only [Bool.and_eq_true,beq_iff_eq] at h;exact h.2
theorem Z43 {m:Mv}(hm:Zq m=0){t:Zgd}{xs:List Nd}(h:Ex t xs)(hf:∀x∈xs,Z7 m x=true->x.s.toList≠m.to_.toList) :
 match t with
 | .one fld=>∀k,xs.length<=k->∃ys,Zt m false k xs=some ys/\Ex (.one fld) ys/\ys.head? = xs.head?.map (ren m)/\ys.Perm (xs.map (ren m))
 | .more c r l=>∃ps:List (List Nd),ps.length=c/\xs=ps.flatten/\ExK r l ps/\∀k,xs.length<=k->∃qs,Zy (ps.map (Zt m false k))=some qs/\qs.length=c/\(∀q∈qs,Ex (.one r) q) /\
  (qs.map List.head? = ps.map λp=>p.head?.map (ren m))/\qs.flatten.Perm (xs.map (ren m)):=by
 induction h with
 | one n body fld hs h7 hb ih=>
  obtain ⟨ps,hc,rfl,hk,hq⟩:=ih (λx hx=>hf x (by simp [hx]));intro k hk';match k,hk' with
  | k+1,hk'=>
   obtain ⟨qs,h1,h2,h3,h4,h5⟩:=hq k (by simpa using hk');rw [Zic m false k n hk,h1];simp only;have hop:=V9 m n;by_cases h6:n.op=6
   . rw [h6] at hk h3;have hk6:ExK true ⟨#[]⟩ ps:=hk;have h36:∀q∈qs,Ex (.one true) q:=h3;have hpw:=Zni hk6;have hpf:∀p∈ps,∃x xs,p=x :: xs/\x.op=7:=λp hp=>by
      obtain ⟨x,xs,e,_,h⟩:=Jb (Jq hk6 p hp);exact ⟨x,xs,e,by simpa using h⟩
     have hnd:(Zi qs).Nodup:=Zlj h4 hpf (λp hp x hx=>hf x (by simp;exact .inr ⟨p,hp,hx⟩)) (hpw.1.imp λh e=>by rw [e] at h;exact List.lt_irrefl _ h);rw [if_pos h6,if_pos hnd];have hex:ExK true ⟨#[]⟩ (Xp qs):=by
      refine Zf8 (λq hq=>h36 q ((Zn qs).mem_iff.1 hq)) (Zaw hnd) ?_;intro s hs';obtain ⟨q,hq,rfl⟩:=List.mem_map.1 hs';obtain ⟨x,xs,rfl,hsx,hx7⟩:=Jb (h36 q ((Zn qs).mem_iff.1 hq));rw [show (⟨#[]⟩:ByteArray).toList = [] from by rw [ByteArray.toList_eq]];exact Z3y (Zjd hsx (by simpa using hx7))
     have hlen:(Xp qs).length=ps.length:=(by rw [(Zn qs).length_eq,h2,hc]);refine ⟨_,rfl,.one _ _ fld (Za8 hm hs) (by rw [hop.1];exact h7) ?_,rfl,?_⟩
     . have:=Qe _ _ _ hex;rw [Zcx,hop.1,<-hc,<-hlen,h6];exact this
     . rw [List.map_cons];exact List.Perm.cons _ ((List.Perm.flatten (Zn qs)).trans h5)
   . rw [if_neg h6,if_neg (by simp)];have e6:(n.op==6)=false:=(by simpa using h6);rw [e6] at hk h3;have hex:ExK false ⟨#[]⟩ qs:=Zct h3;refine ⟨_,rfl,.one _ _ fld (Za8 hm hs) (by rw [hop.1];exact h7) ?_,rfl,?_⟩
     . have:=Qe _ _ _ hex;rw [Zcx,hop.1,e6,<-h2];exact this
     . rw [List.map_cons];exact List.Perm.cons _ h5
 | nil r l=>exact ⟨[],rfl,rfl,trivial,λk _=>⟨[],rfl,rfl,by simp,rfl,by simp⟩⟩
 | cons c r l x xs ys hl hx hy ih1 ih2=>
  have ih1':=ih1 (λy hy'=>hf y (by simp at hy' ⊢;rcases hy' with h | h;exact .inl h;exact .inr (.inl h)));obtain ⟨ps,h1,h2,h3,h4⟩:=ih2 (λy hy'=>hf y (by simp;exact .inr (.inr hy')));refine ⟨(x :: xs) :: ps,by simp [h1],by rw [List.flatten_cons,<-h2],⟨hx,hl,h3⟩,?_⟩;intro k hk;rw [List.length_append] at hk;obtain ⟨zs,a1,a2,a3,a4⟩:=ih1' k (by omega);obtain ⟨qs,b1,b2,b3,b4,b5⟩:=h4 k (by omega);refine ⟨zs :: qs,by rw [List.map_cons,a1,Zy,b1],by simp [b2],?_,by rw [List.map_cons,List.map_cons,a3,b4],?_⟩
  . intro q hq;rcases List.mem_cons.1 hq with rfl | hq
    . exact a2
    . exact b3 q hq
  . rw [List.flatten_cons,List.map_append];exact a4.append b5
def Zs1 (m:Mv)(e:List Nd):Option (List Nd):=Zt m false e.length e
theorem Xr:∀(ps:List (List Nd)),(∀p∈ps,∃b,Ex (.one b) p)->∀k,ps.flatten.length<=k->Va k ps.flatten=ps
 | [],_,k,_=>by cases k <;> rfl
 | p :: ps,h,k,hk=>by
  obtain ⟨b,hb⟩:=h p (by simp);obtain ⟨x,xs,rfl,_,_⟩:=Jb hb;rw [List.flatten_cons,List.length_append,List.length_cons] at hk;match k,hk with
  | 0,hk=>omega
  | k+1,hk=>
   have hs:=Zua hb ps.flatten;rw [List.flatten_cons];rw [List.cons_append] at hs ⊢;rw [Va,hs];simp only;rw [<-List.cons_append,List.take_left,List.drop_left,Xr ps (λq hq=>h q (by simp [hq])) k (by omega)]
theorem Xa (m:Mv)(vals:Bool)(k:Nat)(x:Nd){ps:List (List Nd)}(h:∀p∈ps,∃b,Ex (.one b) p):Zt m vals (k+1) (x :: ps.flatten) =
 match Zy (ps.map (Zt m vals k)) with
 | none=>none
 | some qs=>if x.op=6 then (if (Zi qs).Nodup then some (ren m x :: (Xp qs).flatten) else none)
  else if x.op=5/\vals=true then some (V7 qs).1 else some (ren m x :: qs.flatten):=by
 rw [Zt,Xr ps h _ (nL _)];try rfl
theorem K4 {α β:Type}[Inhabited β](f:α->Option β):∀(ps:List α),(∀p∈ps,∃y,f p=some y)->Zy (ps.map f)=some (ps.map λp=>(f p).getD default)
 | [],_=>rfl
 | p :: ps,h=>by
  obtain ⟨y,hy⟩:=h p (by simp);rw [List.map_cons,hy,Zy,K4 f ps (λq hq=>h q (by simp [hq])),List.map_cons,hy];rfl
end Go.Proofs.YtpheiojmcafolaaGreatDoor
namespace Go.Proofs.YtpheiojmcafolaaGreatDoor
open Go.RowKit Go.Sort
theorem Z0h {b:Bool}{p:List Nd}(h:Ex (.one b) p)(rest:List Nd)(i:Nat):skP (p++rest) 1 i=some (i+p.length):=by
 have hb:=Zfn h (List.replicate i ⟨0,0,⟨#[]⟩,⟨#[]⟩⟩) rest (2*p.length) (by simp);have:=Zss _ _ _ _ _ hb 0 (Int.le_refl _);rw [List.append_assoc,List.drop_left,List.length_replicate] at this;simp only [Int.add_zero] at this;rw [this,Zjj]
theorem Zu1 {α:Type}(nm:α->List UInt8):SWO (ltOf λx y:α=>Lib.compareBytes (nm x) (nm y)):=by
 have hd:∀x y:α,ltOf (λx y:α=>Lib.compareBytes (nm x) (nm y)) x y=decide (nm x < nm y):=λx y=>by
  unfold ltOf;simp only [Zbp]
 refine ⟨λx=>?_,λx y z h1 h2=>?_,λx y z h1 h2=>?_⟩
 . rw [hd];simp [List.lt_irrefl]
 . rw [hd] at h1 h2 ⊢;simp only [decide_eq_true_eq] at h1 h2 ⊢;exact List.lt_trans h1 h2
 . rw [hd] at h1 h2 ⊢;simp only [decide_eq_false_iff_not,List.not_lt] at h1 h2 ⊢;exact List.le_trans h2 h1
def Z0s (ds:List (List Nd)):Prop:=∀(i j:Nat) (a b:List Nd),ds[i]? = some a->ds[j]? = some b->i < j->¬(Xf b).toList < (Xf a).toList
theorem Z07 {ds:List (List Nd)}(hs:Z0s ds)(ha:∀(j:Nat) (a b:List Nd),ds[j]? = some a->ds[j+1]? = some b->(Xf b).toList≠(Xf a).toList):(Zi ds).Pairwise (· < ·):=by
 rw [List.pairwise_iff_getElem];intro i j hi hj hij;unfold Zi at hi hj ⊢;rw [List.length_map] at hi hj;rw [List.getElem_map,List.getElem_map];obtain ⟨k,rfl⟩:∃k,j=k+1:=⟨j - 1,by omega⟩;have e1:ds[k]? = some ds[k]:=gE (by omega);have e2:ds[k+1]? = some ds[k+1]:=gE hj;have h1:=List.not_lt.1 (hs k (k+1) _ _ e1 e2 (by omega));have h2:(Xf ds[k]).toList < (Xf ds[k+1]).toList:=by
  rcases Zcf h1 with h | h
  . exact h
  . exact absurd h.symm (ha k _ _ e1 e2)
 rcases Nat.lt_or_ge i k with h | h
 . have e3:ds[i]? = some ds[i]:=gE hi;rcases Zcf (List.not_lt.1 (hs i k _ _ e3 e1 h)) with h3 | h3
   . exact List.lt_trans h3 h2
   . rw [h3];exact h2
 . obtain rfl:i=k:=by omega
   exact h2
theorem Zat {ds:List (List Nd)}(h:(Zi ds).Pairwise (· < ·)):(Zi ds).Nodup:=h.imp λh e=>by rw [e] at h;exact List.lt_irrefl _ h
theorem Zwl {ds qs:List (List Nd)}(hp:ds.Perm qs)(hs:Z0s ds)(ha:∀(j:Nat) (a b:List Nd),ds[j]? = some a->ds[j+1]? = some b->(Xf b).toList≠(Xf a).toList):(Zi qs).Nodup/\ds=Xp qs:=by
 have h1:=Z07 hs ha;have h2:(Zi qs).Nodup:=(hp.map _).nodup_iff.1 (Zat h1);exact ⟨h2,Zh5 h1 (Zaw h2) (hp.trans (Zn qs).symm)⟩
theorem Zqq {ds qs:List (List Nd)}(hp:ds.Perm qs){j:Nat}{a b:List Nd}(h1:ds[j]? = some a)(h2:ds[j+1]? = some b)(he:(Xf b).toList=(Xf a).toList):¬(Zi qs).Nodup:=by
 intro h;have h':(Zi ds).Nodup:=(hp.map _).nodup_iff.2 h;unfold Zi at h';rw [List.Nodup,List.pairwise_iff_getElem] at h';obtain ⟨k1,e1⟩:=List.getElem?_eq_some_iff.1 h1;obtain ⟨k2,e2⟩:=List.getElem?_eq_some_iff.1 h2;refine h' j (j+1) (by simpa using k1) (by simpa using k2) (by omega) ?_;rw [List.getElem_map,List.getElem_map,e1,e2,he]
structure Cm {α:Type}(c:α->α->Int):Prop where
 self:∀x,c x x=0
 eq:∀x y,c x y=0->x=y
 flip:∀x y,0 < c x y ↔ c y x < 0
 trans:∀x y z,c x y < 0->c y z < 0->c x z < 0
theorem Zzx:Cm Zfa:=by
 refine ⟨λx=>?_,λx y h=>?_,λx y=>?_,λx y z h1 h2=>?_⟩
 . simp [Zfa]
 . simp only [Zfa] at h;(repeat' split at h) <;> omega
 . simp only [Zfa];(repeat' split) <;> omega
 . simp only [Zfa] at h1 h2 ⊢;(repeat' split at h1) <;> (repeat' split at h2) <;> (repeat' split) <;> omega
theorem Z19:Cm Lib.compareBytes:=by
 have hs:∀x,Lib.compareBytes x x=0:=λx=>by
  have h1:¬Lib.compareBytes x x < 0:=λh=>List.lt_irrefl _ ((Zbp _ _).1 h);have h2:¬0 < Lib.compareBytes x x:=λh=>List.lt_irrefl _ ((Zio _ _).1 h);omega
 refine ⟨hs,λx y h=>?_,λx y=>by rw [Zio,Zbp],λx y z h1 h2=>?_⟩
 . have h1:¬x < y:=λhh=>by have:=(Zbp x y).2 hh;omega
   have h2:¬y < x:=λhh=>by have:=(Zio x y).2 hh;omega
   rcases Zcf (List.not_lt.1 h2) with h3 | h3
   . exact absurd h3 h1
   . exact h3
 . rw [Zbp] at h1 h2 ⊢;exact List.lt_trans h1 h2
theorem Cm.inj {α β:Type}{c:β->β->Int}(h:Cm c)(f:α->β)(hf:∀x y,f x=f y->x=y):Cm λx y=>c (f x) (f y):=
 ⟨λ_=>h.self _,λ_ _ e=>hf _ _ (h.eq _ _ e),λ_ _=>h.flip _ _,λ_ _ _=>h.trans _ _ _⟩
theorem Cm.lex {α β:Type}{c:α->α->Int}{d:β->β->Int}(hc:Cm c)(hd:Cm d):Cm λx y:α × β=>if c x.1 y.1=0 then d x.2 y.2 else c x.1 y.1:=by
 have hz:∀x y,c x y=0->c y x=0:=λx y h=>by rw [hc.eq x y h,hc.self]
 refine ⟨λx=>by simp [hc.self,hd.self],λx y h=>?_,λx y=>?_,λx y z h1 h2=>?_⟩
 . by_cases h0:c x.1 y.1=0
   . simp only [h0,if_true] at h;exact Prod.ext (hc.eq _ _ h0) (hd.eq _ _ h)
   . simp only [h0,if_false] at h
 . by_cases h0:c x.1 y.1=0
   . have h1:=hz _ _ h0;simp only [h0,h1,if_true];exact hd.flip _ _
   . have h1:¬c y.1 x.1=0:=λh=>h0 (hz _ _ h);simp only [h0,h1,if_false];exact hc.flip _ _
 . by_cases h0:c x.1 y.1=0
   . simp only [h0,if_true] at h1;have e:=hc.eq _ _ h0;rw [e];by_cases h3:c y.1 z.1=0
     . simp only [h3,if_true] at h2 ⊢;exact hd.trans _ _ _ h1 h2
     . simp only [h3,if_false] at h2 ⊢;exact h2
   . simp only [h0,if_false] at h1;by_cases h3:c y.1 z.1=0
     . have e:=hc.eq _ _ h3;rw [<-e];simp only [h0,if_false];exact h1
     . simp only [h3,if_false] at h2;have h4:=hc.trans _ _ _ h1 h2;have h5:¬c x.1 z.1=0:=(by omega);simp only [h5,if_false];exact h4
theorem Zkp {x y:ByteArray}(h:x.data.toList=y.data.toList):x=y:=by
 cases x;cases y;simp at h;rw [h]
theorem Z5p:Cm Jn:=by
 have h:Jn=λx y:Nd=>if Zfa x.op y.op=0 then (if Zfa x.n y.n=0 then (if Lib.compareBytes x.s.data.toList y.s.data.toList=0 then Lib.compareBytes x.t.data.toList y.t.data.toList else Lib.compareBytes x.s.data.toList y.s.data.toList) else Zfa x.n y.n) else Zfa x.op y.op:=by
  funext x y
  unfold Jn;simp only [orI];split
  . split
    . split
      . split
        . rename_i h;exact h.symm
        . rfl
      . rfl
    . rfl
  . rfl
 rw [h];have hb:Cm λx y:ByteArray=>Lib.compareBytes x.data.toList y.data.toList:=Z19.inj (λx:ByteArray=>x.data.toList) λ_ _=>Zkp;exact (Zzx.lex (Zzx.lex (hb.lex hb))).inj (λx:Nd=>(x.op,x.n,x.s,x.t)) λx y h=>by
  cases x;cases y;simp at h;simp [h]
theorem Us:Cm Zz:=by
 have hn:=Z5p;have hz:∀x y,Jn x y=0->Jn y x=0:=λx y h=>by rw [hn.eq x y h,hn.self]
 refine ⟨λx=>?_,λx=>?_,λx=>?_,λx=>?_⟩
 . induction x with
   | nil=>rfl
   | cons a r ih=>simp [Zz,hn.self,ih]
 . induction x with
   | nil=>intro y h;cases y with
    | nil=>rfl
    | cons b s=>simp [Zz] at h
   | cons a r ih=>
    intro y h;cases y with
    | nil=>simp [Zz] at h
    | cons b s=>
     rw [Zz] at h;split at h
     . rename_i h0;rw [hn.eq _ _ h0,ih s h]
     . rename_i h0;exact absurd h h0
 . induction x with
   | nil=>intro y;cases y with
    | nil=>simp [Zz]
    | cons b s=>simp [Zz]
   | cons a r ih=>
    intro y;cases y with
    | nil=>simp [Zz]
    | cons b s=>
     rw [Zz,Zz];by_cases h0:Jn a b=0
     . rw [if_pos h0,if_pos (hz _ _ h0)];exact ih s
     . rw [if_neg h0,if_neg (λh=>h0 (hz _ _ h))];exact hn.flip _ _
 . induction x with
   | nil=>intro y z h1 h2;cases y with
    | nil=>simp [Zz] at h1
    | cons b s=>cases z with
     | nil=>simp [Zz] at h2
     | cons d u=>simp [Zz]
   | cons a r ih=>
    intro y z h1 h2;cases y with
    | nil=>simp [Zz] at h1
    | cons b s=>cases z with
     | nil=>simp [Zz] at h2
     | cons d u=>
      rw [Zz] at h1 h2 ⊢;by_cases h0:Jn a b=0
      . rw [if_pos h0] at h1;have e:=hn.eq _ _ h0;rw [e];by_cases h3:Jn b d=0
        . rw [if_pos h3] at h2 ⊢;exact ih _ _ h1 h2
        . rw [if_neg h3] at h2 ⊢;exact h2
      . rw [if_neg h0] at h1;by_cases h3:Jn b d=0
        . rw [<-hn.eq _ _ h3,if_neg h0];exact h1
        . rw [if_neg h3] at h2;have h4:=hn.trans _ _ _ h1 h2;rw [if_neg (by omega)];exact h4
theorem Cm.swo {α:Type}{c:α->α->Int}(h:Cm c):SWO (ltOf c):=by
 refine ⟨λx=>by simp [ltOf,h.self],λx y z h1 h2=>?_,λx y z h1 h2=>?_⟩
 . simp only [ltOf,decide_eq_true_eq] at h1 h2 ⊢;exact h.trans _ _ _ h1 h2
 . simp only [ltOf,decide_eq_false_iff_not] at h1 h2 ⊢;intro h3;have h4:0 < c z x:=(h.flip _ _).2 h3;by_cases e1:c x y=0
   . rw [h.eq _ _ e1] at h3;exact h2 h3
   . have a1:c y x < 0:=(h.flip _ _).1 (by omega);by_cases e2:c y z=0
     . rw [<-h.eq _ _ e2] at h3;exact h1 h3
     . have a2:c z y < 0:=(h.flip _ _).1 (by omega);have:=h.trans _ _ _ a2 a1;omega
theorem Z0u {α:Type}{R:α->α->Prop}(hi:∀x,¬R x x)(ht:∀x y z,R x y->R y z->R x z):∀{ps qs:List α},ps.Pairwise R->qs.Pairwise R->ps.Perm qs->ps=qs
 | [],qs,_,_,h=>(List.Perm.nil_eq h)
 | p :: ps,[],_,_,h=>absurd h.symm (λh=>by have:=List.Perm.nil_eq h;cases this)
 | p :: ps,q :: qs,hp,hq,h=>by
  have hp':=List.pairwise_cons.1 hp;have hq':=List.pairwise_cons.1 hq;have e:p=q:=by
   rcases List.mem_cons.1 (h.mem_iff.1 (List.mem_cons_self)) with e | h1
   . exact e
   . rcases List.mem_cons.1 (h.mem_iff.2 (List.mem_cons_self (a:=q))) with e | h2
     . exact e.symm
     . exact absurd (ht _ _ _ (hp'.1 _ h2) (hq'.1 _ h1)) (hi _)
  subst e;rw [Z0u hi ht hp'.2 hq'.2 (List.Perm.cons_inv h)]
def LtN (a b:List Nd):Prop:=Zz a b < 0
theorem Qa (x:List Nd):¬LtN x x:=by unfold LtN;rw [Us.self];omega
theorem Zcv (x y z:List Nd):LtN x y->LtN y z->LtN x z:=Us.trans x y z
theorem Zf3 (qs:List (List Nd)):(qs.mergeSort Za5).Pairwise λa b=>Zz a b<=0:=by
 have h:=Us.swo;have h1:(qs.mergeSort Za5).Pairwise λa b=>Za5 a b=true:=List.pairwise_mergeSort
  (by
   intro a b c h1 h2;simp only [Za5,decide_eq_true_eq] at h1 h2 ⊢;have:=h.ntrans c b a;simp only [ltOf,decide_eq_false_iff_not] at this;have f1:=Us.flip a b;have f2:=Us.flip b c;have f3:=Us.flip a c;by_cases hh:Zz c a < 0
   . exact absurd hh (this (λhx=>by have:=f2.2 hx;omega) (λhx=>by have:=f1.2 hx;omega))
   . have:¬0 < Zz a c:=λhx=>hh (f3.1 hx);omega)
  (by
   intro a b;simp only [Za5,Bool.or_eq_true,decide_eq_true_eq];have:=Us.flip a b;by_cases hh:Zz a b<=0
   . exact .inl hh
   . exact .inr (by have:=this.1 (by omega);omega)) _
 refine h1.imp λh=>?_;simpa [Za5] using h
theorem Ziy:∀(l:List (List Nd)) (a:List Nd),(a :: l).Pairwise (λa b=>Zz a b<=0)->(a :: Je a l).Pairwise LtN
 | [],a,_=>by simp [Je]
 | b :: r,a,h=>by
  have h1:=List.pairwise_cons.1 h;have h2:=List.pairwise_cons.1 h1.2;rw [Je];by_cases h0:Zz a b=0
  . rw [if_pos h0];exact Ziy r a (List.pairwise_cons.2 ⟨λc hc=>h1.1 c (by simp [hc]),h2.2⟩)
  . rw [if_neg h0];have ih:=Ziy r b h1.2;have hab:LtN a b:=(by have:=h1.1 b (by simp);unfold LtN;omega);refine List.pairwise_cons.2 ⟨λc hc=>?_,ih⟩;rcases List.mem_cons.1 hc with rfl | hc
    . exact hab
    . exact Zcv _ _ _ hab ((List.pairwise_cons.1 ih).1 c hc)
theorem U1 (qs:List (List Nd)):(Yd qs).Pairwise LtN:=by
 have h:=Zf3 qs;unfold Yd;cases hq:qs.mergeSort Za5 with
 | nil=>simp [Zav]
 | cons a l=>rw [hq] at h;exact Ziy l a h
theorem Zfv:∀(l:List (List Nd)) (a:List Nd),(Je a l).Sublist l
 | [],a=>by simp [Je]
 | b :: r,a=>by
  rw [Je];split
  . exact (Zfv r a).cons _
  . exact (Zfv r b).cons_cons _
theorem Zij:∀(l:List (List Nd)),(Zav l).Sublist l
 | []=>.slnil
 | a :: l=>(Zfv l a).cons_cons _
theorem Zpo:∀(l:List (List Nd)) (a:List Nd),(a :: l).Pairwise LtN->Je a l=l
 | [],a,_=>rfl
 | b :: r,a,h=>by
  have h1:=List.pairwise_cons.1 h;have:LtN a b:=h1.1 b (by simp);rw [Je,if_neg (by unfold LtN at this;omega),Zpo r b h1.2]
theorem Zwy {l:List (List Nd)}(h:l.Pairwise LtN):Zav l=l:=by
 cases l with
 | nil=>rfl
 | cons a l=>rw [Zav,Zpo l a h]
theorem Zmh {qs:List (List Nd)}(h:qs.Nodup):(qs.mergeSort Za5).Pairwise LtN:=by
 have h2:(qs.mergeSort Za5).Nodup:=(List.mergeSort_perm _ _).nodup_iff.2 h;refine ((Zf3 qs).and h2).imp ?_;rintro a b ⟨h3,h4⟩;unfold LtN;have:Zz a b≠0:=λe=>h4 (Us.eq _ _ e);omega
theorem Qt {qs:List (List Nd)}(h:qs.Nodup):(Yd qs).Perm qs:=by
 unfold Yd;rw [Zwy (Zmh h)];exact List.mergeSort_perm _ _
theorem Zf0 {qs:List (List Nd)}(h:qs.Pairwise LtN):qs.Nodup:=h.imp λh e=>by subst e;exact Qa _ h
theorem Zoh {ps qs:List (List Nd)}(h:qs.Perm ps)(hp:ps.Pairwise LtN):Yd qs=ps:=by
 have hn:qs.Nodup:=h.nodup_iff.2 (Zf0 hp);exact Z0u Qa Zcv (U1 qs) hp ((Qt hn).trans h)
def Zhb:Option (List Nd)->List (List Nd)->Prop
 | _,[]=>True
 | l,p :: ps=>Zkl l p=false/\Zhb (some p) ps
def Zkm:ByteArray->List (List Nd)->Prop
 | _,[]=>True
 | l,p :: ps=>Ql l (Xf p)=false/\Zkm (Xf p) ps
inductive Vx:List Nd->Prop where
 | leaf (n:Nd):Zj n=true->¬n.op=5->¬n.op=6->¬n.op=7->Vx [n]
 | set (n:Nd) (ps:List (List Nd)):Zj n=true->n.op=5->n.n=ps.length->(∀p∈ps,Vx p)->Zhb none ps->Vx (n :: ps.flatten)
 | rcd (n:Nd) (ps:List (List Nd)):Zj n=true->n.op=6->n.n=ps.length->(∀p∈ps,∃f v,p=f :: v)->(∀f v,f :: v∈ps->f.op=7/\Zj f=true)->(∀f v,f :: v∈ps->Vx v)->Zkm ⟨#[]⟩ ps->Vx (n :: ps.flatten)
def Fx (p:List Nd):Prop:=∃f v,p=f :: v/\f.op=7/\Zj f=true/\Vx v
theorem Vx.ne {xs:List Nd}(h:Vx xs):∃x r,xs=x :: r/\Zj x=true/\¬x.op=7:=by
 cases h with
 | leaf n h h5 h6 h7=>exact ⟨n,[],rfl,h,h7⟩
 | set n ps h h5=>exact ⟨n,_,rfl,h,by omega⟩
 | rcd n ps h h6=>exact ⟨n,_,rfl,h,by omega⟩
theorem Vx.rcd' {n:Nd}{ps:List (List Nd)}(h:Zj n=true)(h6:n.op=6)(hn:n.n=ps.length)(hp:∀p∈ps,Fx p)(hr:Zkm ⟨#[]⟩ ps):Vx (n :: ps.flatten):=
 .rcd n ps h h6 hn (λp hp'=>by obtain ⟨f,v,e,_⟩:=hp p hp';exact ⟨f,v,e⟩)
  (λf v hm=>by obtain ⟨f',v',e,a,b,_⟩:=hp _ hm;injection e with e1 e2;subst e1;exact ⟨a,b⟩)
  (λf v hm=>by obtain ⟨f',v',e,a,b,c⟩:=hp _ hm;injection e with e1 e2;subst e2;exact c) hr
theorem Zuw (e:List Nd):∀(f:Nat) (t:Z30) (i j:Nat),vGo e f t i=some j ->
 match t with
 | .one=>Vx (piece e i j)
 | .set c l=>∃ps:List (List Nd),ps.length=c/\piece e i j=ps.flatten/\(∀p∈ps,Vx p)/\Zhb l ps
 | .flds c l=>∃ps:List (List Nd),ps.length=c/\piece e i j=ps.flatten/\(∀p∈ps,Fx p)/\Zkm l ps:=by
 intro f;induction f with
 | zero=>
  intro t i j h;cases t with
  | one=>simp [vGo] at h
  | set c l=>simp only [vGo] at h;split at h <;> simp at h;subst h;rename_i hc;subst hc;exact ⟨[],rfl,by rw [Xs];rfl,by simp,trivial⟩
  | flds c l=>simp only [vGo] at h;split at h <;> simp at h;subst h;rename_i hc;subst hc;exact ⟨[],rfl,by rw [Xs];rfl,by simp,trivial⟩
 | succ f ih=>
  intro t i j h;have hb:=X1 e _ _ _ _ h;cases t with
  | one=>
   have hij:=hb.2.2 rfl;rw [vGo] at h;split at h
   . cases h
   . rename_i n hn;split at h
     . cases h
     . rename_i hsh;have hsh:Zj n=true:=(by simpa using hsh);show Vx (piece e i j);rw [Vz hn hij];split at h
       . rename_i h5;obtain ⟨ps,h1,h2,h3,h4⟩:=ih _ _ _ h;rw [h2];have h0:0<=n.n:=(by simp [Zj,h5] at hsh;omega);exact .set n ps hsh h5 (by omega) h3 h4
       . rename_i h5;split at h
         . rename_i h6;obtain ⟨ps,h1,h2,h3,h4⟩:=ih _ _ _ h;rw [h2];have h0:0<=n.n:=(by simp [Zj,h6] at hsh;omega);exact .rcd' hsh h6 (by omega) h3 h4
         . rename_i h6;split at h
           . cases h
           . rename_i h7;injection h with h
             subst h;rw [Xs];exact .leaf n hsh h5 h6 h7
  | set c l=>
   cases c with
   | zero=>simp only [vGo,Option.some.injEq] at h;subst h;exact ⟨[],rfl,by rw [Xs];rfl,by simp,trivial⟩
   | succ c=>
    simp only [vGo] at h;split at h
    . cases h
    . rename_i k hk;split at h
      . cases h
      . rename_i hl;have b1:=X1 e _ _ _ _ hk;have b2:=X1 e _ _ _ _ h;have a1:Vx (piece e i k):=ih _ _ _ hk;obtain ⟨ps,h1,h2,h3,h4⟩:=ih _ _ _ h;refine ⟨piece e i k :: ps,by simp [h1],by rw [Kd e b1.2.1 b2.2.1,h2];rfl,?_,by simpa using hl,h4⟩;intro p hp;rcases List.mem_cons.1 hp with rfl | hp
        . exact a1
        . exact h3 p hp
  | flds c l=>
   cases c with
   | zero=>simp only [vGo,Option.some.injEq] at h;subst h;exact ⟨[],rfl,by rw [Xs];rfl,by simp,trivial⟩
   | succ c=>
    simp only [vGo] at h;split at h
    . cases h
    . rename_i m hm;split at h
      . cases h
      . rename_i hl;split at h
        . cases h
        . rename_i k hk;have b1:=X1 e _ _ _ _ hk;have b2:=X1 e _ _ _ _ h;have a1:Vx (piece e (i+1) k):=ih _ _ _ hk;obtain ⟨ps,h1,h2,h3,h4⟩:=ih _ _ _ h;have hik:i < k:=(by have:=b1.2.2 rfl;omega);simp only [not_or,Decidable.not_not,Bool.not_eq_true] at hl;have hl2:Zj m=true:=(by simpa using hl.2.1);have hp0:piece e i k=m :: piece e (i+1) k:=Vz hm hik;refine ⟨(m :: piece e (i+1) k) :: ps,by simp [h1],by rw [Kd e (Nat.le_of_lt hik) b2.2.1,h2,hp0];rfl,?_,hl.2.2,h4⟩;intro p hp;rcases List.mem_cons.1 hp with rfl | hp
          . exact ⟨m,_,rfl,hl.1,hl2,a1⟩
          . exact h3 p hp
theorem Zf5 (a p b:List Nd):piece (a++p++b) a.length (a.length+p.length)=p:=by
 unfold piece;rw [List.append_assoc,List.drop_left];simp
def Rd (p:List Nd):Prop:=∀(a b:List Nd) (f:Nat),2*p.length<=f->vGo (a++p++b) f .one a.length=some (a.length+p.length)
theorem Z0g:∀(ps:List (List Nd)) (l:Option (List Nd)),(∀p∈ps,Rd p/\0 < p.length)->Zhb l ps->∀(a b:List Nd) (f:Nat),2*ps.flatten.length+1<=f ->
 vGo (a++ps.flatten++b) f (.set ps.length l) a.length=some (a.length+ps.flatten.length)
 | [],l,_,_,a,b,f,hf=>by
  match f,hf with
  | f+1,_=>simp [vGo]
 | p :: ps,l,hp,hc,a,b,f,hf=>by
  have h1:=hp p (by simp);rw [List.flatten_cons,List.length_append] at hf;match f,hf with
  | f+1,hf=>
   have r1:=h1.1 a (ps.flatten++b) f (by omega);have e1:a++p++(ps.flatten++b)=a++(p :: ps).flatten++b:=(by simp);rw [e1] at r1;have e2:piece (a++(p :: ps).flatten++b) a.length (a.length+p.length)=p:=(by rw [<-e1];exact Zf5 a p _);have r2:=Z0g ps (some p) (λq hq=>hp q (by simp [hq])) hc.2 (a++p) b f (by omega);have e3:a++p++ps.flatten++b=a++(p :: ps).flatten++b:=(by simp);rw [e3,List.length_append] at r2;simp only [List.length_cons,vGo,r1,e2];rw [if_neg (by rw [hc.1];simp),r2,List.flatten_cons,List.length_append];congr 1
   omega
theorem Z0p:∀(ps:List (List Nd)) (l:ByteArray),(∀p∈ps,∃f v,p=f :: v/\f.op=7/\Zj f=true/\Rd v/\0 < v.length)->Zkm l ps->∀(a b:List Nd) (f:Nat),2*ps.flatten.length+1<=f ->
 vGo (a++ps.flatten++b) f (.flds ps.length l) a.length=some (a.length+ps.flatten.length)
 | [],l,_,_,a,b,f,hf=>by
  match f,hf with
  | f+1,_=>simp [vGo]
 | p :: ps,l,hp,hc,a,b,f,hf=>by
  obtain ⟨m,v,rfl,h7,hs,hr,hv0⟩:=hp p (by simp);rw [List.flatten_cons,List.length_append,List.length_cons] at hf;match f,hf with
  | f+1,hf=>
   have r1:=hr (a ++ [m]) (ps.flatten++b) f (by omega);have e1:a ++ [m]++v++(ps.flatten++b)=a++((m :: v) :: ps).flatten++b:=(by simp);rw [e1,List.length_append,List.length_singleton] at r1;have r2:=Z0p ps m.s (λq hq=>hp q (by simp [hq])) hc.2 (a++m :: v) b f (by omega);have e3:a++m :: v++ps.flatten++b=a++((m :: v) :: ps).flatten++b:=(by simp);rw [e3,List.length_append,List.length_cons] at r2;have hm:(a++((m :: v) :: ps).flatten++b)[a.length]? = some m:=(by simp);have hl:Ql l m.s=false:=hc.1;simp only [List.length_cons,vGo,hm];rw [if_neg (by simp [h7,hs,hl]),r1];simp only;rw [show a.length+1+v.length=a.length+(v.length+1) from by omega,r2,List.flatten_cons,List.length_append,List.length_cons];congr 1
   omega
theorem Z0t {xs:List Nd}(h:Vx xs):Rd xs:=by
 induction h with
 | leaf n hs h5 h6 h7=>
  intro a b f hf;match f,hf with
  | f+1,_=>simp [vGo,hs,h5,h6,h7]
 | set n ps hs h5 hn hv hc ih=>
  intro a b f hf;match f,hf with
  | f+1,hf=>
   rw [List.length_cons] at hf;have r:=Z0g ps none (λp hp=>⟨ih p hp,by obtain ⟨x,r,e,_⟩:=(hv p hp).ne;rw [e];simp⟩) hc (a ++ [n]) b f (by omega);have e1:a ++ [n]++ps.flatten++b=a++(n :: ps.flatten)++b:=(by simp);rw [e1,List.length_append,List.length_singleton] at r;have hm:(a++(n :: ps.flatten)++b)[a.length]? = some n:=(by simp);simp only [vGo,hm,hs,h5];simp only [Bool.true_eq_false,if_false,if_true];rw [show n.n.toNat=ps.length from by omega,r,List.length_cons];congr 1
   omega
 | rcd n ps hs h6 hn h1 h2 h3 hc ih=>
  intro a b f hf;match f,hf with
  | f+1,hf=>
   rw [List.length_cons] at hf;have r:=Z0p ps ⟨#[]⟩ (λp hp=>by
    obtain ⟨m,v,rfl⟩:=h1 p hp;obtain ⟨a1,a2⟩:=h2 m v hp;exact ⟨m,v,rfl,a1,a2,ih m v hp,by obtain ⟨x,r,e,_⟩:=(h3 m v hp).ne;rw [e];simp⟩) hc (a ++ [n]) b f (by omega)
   have e1:a ++ [n]++ps.flatten++b=a++(n :: ps.flatten)++b:=(by simp);rw [e1,List.length_append,List.length_singleton] at r;have hm:(a++(n :: ps.flatten)++b)[a.length]? = some n:=(by simp);have h5:¬n.op=5:=(by omega);simp only [vGo,hm,hs,h6];simp only [Bool.true_eq_false,if_false,if_true];rw [if_neg (by omega),show n.n.toNat=ps.length from by omega,r,List.length_cons];congr 1
   omega
theorem Z0 (e:List Nd):Zb e=0 ↔ e.length<=200/\Vx e:=by
 unfold Zb;constructor
 . intro h;split at h
   . cases h
   . split at h
     . rename_i h1 h2;have:=Zuw e _ _ _ _ h2;have h3:Vx (piece e 0 e.length):=this;rw [show piece e 0 e.length=e from by simp [piece]] at h3;exact ⟨by omega,h3⟩
     . cases h
 . rintro ⟨h1,h2⟩;have r:=Z0t h2 [] [] (2*e.length) (nL _);simp only [List.nil_append,List.append_nil,List.length_nil,Nat.zero_add] at r;rw [if_neg (by omega),if_pos r]
theorem Zcn {n:Nd}(h:Zj n=true):Zx n=true:=by
 by_cases h5:n.op=5\/n.op=6
 . unfold Zx;rw [if_neg (by omega),if_pos h5];unfold Zj at h;rw [if_neg (by omega),if_neg (by omega),if_neg (by omega),if_neg (by omega),if_pos h5] at h;exact h
 . by_cases h7:n.op=7
   . unfold Zx;rw [if_neg (by omega),if_neg (by omega),if_neg (by omega),if_pos (by omega)];unfold Zj at h;rw [if_neg (by omega),if_neg (by omega),if_neg (by omega),if_neg (by omega),if_neg (by omega),if_pos h7] at h;exact h
   . have h1:n.op=1\/n.op=2\/n.op=3\/n.op=4:=by
      unfold Zj at h;by_cases a1:n.op=1
      . omega
      . by_cases a2:n.op=2
        . omega
        . by_cases a3:n.op=3
          . omega
          . by_cases a4:n.op=4
            . omega
            . rw [if_neg a1,if_neg a2,if_neg a3,if_neg a4,if_neg h5,if_neg h7] at h;cases h
     unfold Zx;rw [if_pos h1,(Z0 [n]).2 ⟨by simp,.leaf n h (by omega) (by omega) h7⟩];rfl
theorem Z4l {p:List Nd}{b:Bool}(h:Ex (.one b) p)(r:Bool)(hr:r=b)(hb:r=false):Ex (.more 1 r ⟨#[]⟩) p:=by
 subst hr;subst hb;obtain ⟨x,xs,rfl,_,_⟩:=Jb h;have:=Ex.cons 0 false ⟨#[]⟩ x xs [] (by simp) h (.nil _ _);simpa using this
theorem Zbm {f:Nd}{v:List Nd}(h7:f.op=7)(hs:Zj f=true)(hv:Ex (.one false) v):Ex (.one true) (f :: v):=by
 refine .one f v true (Zcn hs) (by simp [h7]) ?_;have:Zl f=1:=by simp [Zl,h7]
 rw [this,show (f.op==6)=false from by simp [h7]];exact Z4l hv false rfl rfl
theorem Zem:∀{ps:List (List Nd)} {l:ByteArray},(∀p∈ps,Ex (.one true) p)->Zkm l ps->ExK true l ps
 | [],_,_,_=>trivial
 | p :: ps,l,h,hr=>⟨h p (by simp),λ_=>hr.1,Zem (λq hq=>h q (by simp [hq])) hr.2⟩
theorem Zep:∀{ps:List (List Nd)} {l:ByteArray},ExK true l ps->Zkm l ps
 | [],_,_=>trivial
 | _ :: _,_,h=>⟨h.2.1 rfl,Zep h.2.2⟩
theorem Vf {xs:List Nd}(h:Vx xs):Ex (.one false) xs:=by
 induction h with
 | leaf n hs h5 h6 h7=>
  refine .one n [] false (Zcn hs) (by simp [h7]) ?_;have h1:n.op=1\/n.op=2\/n.op=3\/n.op=4:=by
   unfold Zj at hs;by_cases a1:n.op=1
   . omega
   . by_cases a2:n.op=2
     . omega
     . by_cases a3:n.op=3
       . omega
       . by_cases a4:n.op=4
         . omega
         . rw [if_neg a1,if_neg a2,if_neg a3,if_neg a4,if_neg (by omega),if_neg h7] at hs;cases hs
  have:Zl n=0:=by rcases h1 with h | h | h | h <;> simp [Zl,h]
  rw [this];exact .nil _ _
 | set n ps hs h5 hn hv hc ih=>
  refine .one n _ false (Zcn hs) (by simp [h5]) ?_;have:Zl n=ps.length:=by simp [Zl,h5,hn]
  rw [this,show (n.op==6)=false from by simp [h5],Int.toNat_natCast];exact Qe ps false _ (Zct ih)
 | rcd n ps hs h6 hn h1 h2 h3 hc ih=>
  refine .one n _ false (Zcn hs) (by simp [h6]) ?_;have:Zl n=ps.length:=by simp [Zl,h6,hn]
  rw [this,show (n.op==6)=true from by simp [h6],Int.toNat_natCast];refine Qe ps true _ (Zem (λp hp=>?_) hc);obtain ⟨f,v,rfl⟩:=h1 p hp;obtain ⟨a1,a2⟩:=h2 f v hp;exact Zbm a1 a2 (ih f v hp)
theorem Zjr:∀{ps:List (List Nd)} {l:Option (List Nd)},Zhb l ps->ps.Pairwise LtN/\∀a,l=some a->∀p∈ps,LtN a p
 | [],l,_=>by simp
 | p :: ps,l,h=>by
  have ih:=Zjr h.2;refine ⟨List.pairwise_cons.2 ⟨ih.2 p rfl,ih.1⟩,?_⟩;rintro a rfl q hq;have h1:LtN a p:=by
   have:=h.1;simp only [Zkl,decide_eq_false_iff_not] at this;unfold LtN;omega
  rcases List.mem_cons.1 hq with rfl | hq
  . exact h1
  . exact Zcv _ _ _ h1 (ih.2 p rfl q hq)
theorem Zjq:∀{ps:List (List Nd)} {l:Option (List Nd)},ps.Pairwise LtN->(∀a,l=some a->∀p∈ps,LtN a p)->Zhb l ps
 | [],_,_,_=>trivial
 | p :: ps,l,h,hl=>by
  have h':=List.pairwise_cons.1 h;refine ⟨?_,Zjq h'.2 (by rintro a ⟨rfl⟩ q hq;exact h'.1 q hq)⟩;cases l with
  | none=>rfl
  | some a=>have:=hl a rfl p (by simp);unfold LtN at this;simp only [Zkl,decide_eq_false_iff_not];omega
theorem Vw {m:Mv}(hm:Zq m=0){x:Nd}(h:Zj x=true):Zj (ren m x)=true:=by
 unfold ren;split
 . rename_i hc;have hl:=hc.1;have ht:=(Zxe hm).2.2;have ho:x.op=7\/x.op=4:=by
    unfold Z7 at hl;unfold Zj at h;split at hl
    . rename_i ho;rcases ho with ho | ho | ho
      . exact .inl ho
      . simp [ho] at h
      . simp [ho] at h
    . split at hl
      . rename_i ho;rcases ho with ho | ho
        . exact .inr ho
        . simp [ho] at h
      . cases hl
   unfold Zj at h ⊢;rcases ho with ho | ho
   . simp only [ho] at h ⊢;simp at h ⊢;exact ⟨h.1,ht⟩
   . simp only [ho] at h ⊢;simp at h ⊢;exact ⟨⟨h.1.1,ht⟩,h.2⟩
 . exact h
def Qm (m:Mv):Mv:=⟨m.what,m.to_,m.fr⟩
theorem Zqm (m:Mv)(x:Nd):Z7 (Qm m) x=Z7 m x:=rfl
theorem Uy {x y:ByteArray}(h:x.toList=y.toList):x=y:=Zkp (by rw [ByteArray.toList_eq,ByteArray.toList_eq] at h;exact h)
theorem Zo2 {m:Mv}{x:Nd}(h:Z7 m x=true->x.s.toList≠m.to_.toList):ren (Qm m) (ren m x)=x:=by
 by_cases hc:Z7 m x=true/\x.s.toList=m.fr.toList
 . have e1:ren m x=⟨x.op,x.n,m.to_,x.t⟩:=by unfold ren;rw [if_pos hc]
   have hl:Z7 (Qm m) ⟨x.op,x.n,m.to_,x.t⟩=true:=by rw [Zqm,<-e1,Zwt];exact hc.1
   rw [e1];unfold ren;rw [if_pos ⟨hl,rfl⟩];show (⟨x.op,x.n,m.fr,x.t⟩:Nd)=x;rw [<-Uy hc.2]
 . have e1:ren m x=x:=by unfold ren;rw [if_neg hc]
   rw [e1];unfold ren;rw [if_neg];rintro ⟨h1,h2⟩;exact h h1 h2
theorem Y5 {α β:Type}(f:α->Option β):∀(ps:List α),Zy (ps.map f)=none\/∃qs,Zy (ps.map f)=some qs/\qs.length=ps.length/\∀q∈qs,∃p∈ps,f p=some q
 | []=>.inr ⟨[],rfl,rfl,by simp⟩
 | p :: ps=>by
  rw [List.map_cons];cases hp:f p with
  | none=>exact .inl rfl
  | some y=>
   rw [Zy];rcases Y5 f ps with h | ⟨qs,h,hl,hq⟩
   . rw [h];exact .inl rfl
   . rw [h];refine .inr ⟨y :: qs,rfl,by simp [hl],?_⟩;intro q hq';rcases List.mem_cons.1 hq' with rfl | hq'
     . exact ⟨p,by simp,hp⟩
     . obtain ⟨p',h1,h2⟩:=hq q hq';exact ⟨p',by simp [h1],h2⟩
theorem Ua {α:Type}(f:List α->Option (List Nd)):∀(ps:List (List α)) (qs:List (List Nd)),Zy (ps.map f)=some qs->(∀p∈ps,∀q,f p=some q->q.length<=p.length)->qs.flatten.length<=ps.flatten.length
 | [],qs,h,_=>by injection h with h;subst h;simp
 | p :: ps,qs,h,hl=>by
  rw [List.map_cons] at h;cases hp:f p with
  | none=>rw [hp] at h;cases h
  | some y=>
   rw [hp,Zy] at h;cases hr:Zy (ps.map f) with
   | none=>rw [hr] at h;cases h
   | some r=>
    rw [hr] at h;injection h with h
    subst h;have h1:=Ua f ps r hr (λp hp=>hl p (by simp [hp]));have h2:=hl p (by simp) y hp;simp only [List.flatten_cons,List.length_append];omega
theorem Vk {ps:List (List Nd)}{p:List Nd}(h:p∈ps):p.length<=ps.flatten.length:=by
 obtain ⟨l1,l2,rfl⟩:=List.append_of_mem h;simp;omega
theorem Ku:∀{qs:List (List Nd)},(∀q∈qs,Vx q/\q.length<=200)->Vl qs=0
 | [],_=>rfl
 | q :: qs,h=>by
  rw [Vl,(Z0 q).2 ⟨(h q (by simp)).2,(h q (by simp)).1⟩,if_neg (by simp),Ku λq hq=>h q (by simp [hq])]
theorem Xk {qs:List (List Nd)}{p:List Nd}(h:p∈Yd qs):p∈qs:=(List.mergeSort_perm _ _).mem_iff.1 ((Zij _).subset h)
theorem Zxo {l1 l2:List (List Nd)}(h:l1.Sublist l2):l1.flatten.length<=l2.flatten.length:=by
 induction h with
 | slnil=>exact nL _
 | cons a h ih=>rw [List.flatten_cons,List.length_append];omega
 | cons_cons a h ih=>rw [List.flatten_cons,List.flatten_cons,List.length_append,List.length_append];omega
theorem Zl3 (qs:List (List Nd)):(Yd qs).flatten.length<=qs.flatten.length:=by
 have h1:(Yd qs).flatten.length<=(qs.mergeSort Za5).flatten.length:=Zxo (Zij _);rw [(List.mergeSort_perm qs Za5).flatten.length_eq] at h1;exact h1
theorem Zch {qs:List (List Nd)}(hv:∀q∈qs,Vx q)(hl:qs.flatten.length+1<=200):V7 qs=(Yb qs,0)/\Vx (Yb qs)/\(Yb qs).length<=qs.flatten.length+1:=by
 have h1:=Zl3 qs;have h2:(Yb qs).length<=qs.flatten.length+1:=by unfold Yb;rw [List.length_cons];omega
 refine ⟨?_,?_,h2⟩
 . unfold V7;rw [Ku (λq hq=>⟨hv q hq,by have:=Vk hq;omega⟩),if_neg (by simp),if_neg (by omega)]
 . exact .set _ _ (by simp [Zj,ByteArray.toList_eq]) rfl rfl (λp hp=>hv p (Xk hp)) (Zjq (U1 qs) (by simp))
theorem Zas (m:Mv)(vals:Bool)(k:Nat){f:Nd}{v:List Nd}(hv:Ex (.one false) v)(h7:f.op=7):Zt m vals (k+1) (f :: v)=(Zt m vals k v).map λw=>ren m f :: w:=by
 have h:=Xa m vals k f (ps:=[v]) (by intro p hp;simp at hp;subst hp;exact ⟨_,hv⟩);simp only [List.flatten_cons,List.flatten_nil,List.append_nil,List.map_cons,List.map_nil] at h;rw [h];cases Zt m vals k v with
 | none=>rfl
 | some w=>simp [Zy,h7]
theorem Zag (m:Mv)(vals:Bool)(k:Nat){n:Nd}(h5:¬n.op=5)(h6:¬n.op=6):Zt m vals (k+1) [n]=some [ren m n]:=by
 have h:=Xa m vals k n (ps:=[]) (by simp);simp only [List.flatten_nil,List.map_nil,Zy,h5,h6,false_and,if_false] at h;exact h
theorem Zbf {qs:List (List Nd)}(h:∀q∈qs,Ex (.one true) q)(hn:(Zi qs).Nodup):ExK true ⟨#[]⟩ (Xp qs):=by
 refine Zf8 (λq hq=>h q ((Zn qs).mem_iff.1 hq)) (Zaw hn) ?_;intro s hs';obtain ⟨q,hq,rfl⟩:=List.mem_map.1 hs';obtain ⟨x,xs,rfl,hsx,hx7⟩:=Jb (h q ((Zn qs).mem_iff.1 hq));rw [show (⟨#[]⟩:ByteArray).toList = [] from by rw [ByteArray.toList_eq]];exact Z3y (Zjd hsx (by simpa using hx7))
theorem Zr7 {m:Mv}(hm:Zq m=0){xs:List Nd}(h:Vx xs):xs.length<=200->∀k,xs.length<=k->Zt m true k xs=none\/∃ys,Zt m true k xs=some ys/\Vx ys/\ys.length<=xs.length:=by
 induction h with
 | leaf n hs h5 h6 h7=>
  intro hl k hk;match k,hk with
  | k+1,hk=>
   refine .inr ⟨_,Zag m true k h5 h6,?_,by simp⟩;have:=V9 m n;exact .leaf _ (Vw hm hs) (by omega) (by omega) (by omega)
 | set n ps hs h5 hn hv hc ih=>
  intro hl k hk;rw [List.length_cons] at hl hk;match k,hk with
  | k+1,hk=>
   rw [Xa m true k n λp hp=>⟨_,Vf (hv p hp)⟩];have hp:∀p∈ps,Zt m true k p=none\/∃ys,Zt m true k p=some ys/\Vx ys/\ys.length<=p.length:=λp hp=>ih p hp (by have:=Vk hp;omega) k (by have:=Vk hp;omega);have hp':∀p∈ps,∀q,Zt m true k p=some q->Vx q/\q.length<=p.length:=λp hpm q hq=>by
    rcases hp p hpm with h | ⟨ys,h,h'⟩
    . rw [h] at hq;cases hq
    . rw [h] at hq;injection hq with hq;subst hq;exact h'
   rcases Y5 (Zt m true k) ps with h | ⟨qs,h,hlq,hq⟩
   . rw [h];exact .inl rfl
   . have h6:¬n.op=6:=(by omega);have hle:=Ua _ _ _ h (λp hpm q hq=>(hp' p hpm q hq).2);have hvq:∀q∈qs,Vx q:=λq hqm=>by obtain ⟨p,h1,h2⟩:=hq q hqm;exact (hp' p h1 q h2).1
     obtain ⟨a1,a2,a3⟩:=Zch hvq (by omega);rw [h];simp only [h5,if_true,true_and];refine .inr ⟨_,rfl,?_,?_⟩
     . rw [a1];exact a2
     . rw [a1,List.length_cons];show (Yb qs).length<=_;omega
 | rcd n ps hs h6 hn h1 h2 h3 hc ih=>
  intro hl k hk;rw [List.length_cons] at hl hk;match k,hk with
  | k+1,hk=>
   have hex:∀p∈ps,Ex (.one true) p:=λp hp=>by
    obtain ⟨f,v,rfl⟩:=h1 p hp;obtain ⟨a1,a2⟩:=h2 f v hp;exact Zbm a1 a2 (Vf (h3 f v hp))
   rw [Xa m true k n λp hp=>⟨_,hex p hp⟩];have hp':∀p∈ps,∀q,Zt m true k p=some q->Fx q/\q.length<=p.length:=λp hpm q hq=>by
    have hle:=Vk hpm;obtain ⟨f,v,rfl⟩:=h1 p hpm;obtain ⟨a1,a2⟩:=h2 f v hpm;rw [List.length_cons] at hle;match k,hk with
    | 0,hk=>omega
    | k+1,hk=>
     rw [Zas m true k (Vf (h3 f v hpm)) a1] at hq;rcases ih f v hpm (by omega) k (by omega) with h | ⟨ys,h,h',h''⟩
     . rw [h] at hq;cases hq
     . rw [h] at hq;injection hq with hq
       subst hq;exact ⟨⟨ren m f,ys,rfl,by rw [(V9 m f).1];exact a1,Vw hm a2,h'⟩,by simpa using h''⟩
   rcases Y5 (Zt m true k) ps with h | ⟨qs,h,hlq,hq⟩
   . rw [h];exact .inl rfl
   . have hle:=Ua _ _ _ h (λp hpm q hq=>(hp' p hpm q hq).2);have hvq:∀q∈qs,Fx q:=λq hqm=>by obtain ⟨p,h1,h2⟩:=hq q hqm;exact (hp' p h1 q h2).1
     have heq:∀q∈qs,Ex (.one true) q:=λq hqm=>by obtain ⟨f,v,rfl,a,b,c⟩:=hvq q hqm;exact Zbm a b (Vf c)
     rw [h];simp only [h6,if_true];by_cases hnd:(Zi qs).Nodup
     . rw [if_pos hnd];refine .inr ⟨_,rfl,?_,?_⟩
       . have e:=V9 m n;exact .rcd' (Vw hm hs) (by omega) (by rw [e.2.1,hn,(Zn qs).length_eq,hlq]) (λp hp=>hvq p ((Zn qs).mem_iff.1 hp)) (Zep (Zbf heq hnd))
       . rw [List.length_cons,List.length_cons,(Zn qs).flatten.length_eq];omega
     . rw [if_neg hnd];exact .inl rfl
theorem Zz5 {m:Mv}(hm:Zq m=0):∀(N:Nat) (xs:List Nd) (b:Bool),xs.length<=N->Ex (.one b) xs->∀k,xs.length<=k->Zt m false k xs=none\/∃ys,Zt m false k xs=some ys/\Ex (.one b) ys/\ys.length<=xs.length
 | 0,xs,b,hN,hx=>by obtain ⟨x,r,rfl,_,_⟩:=Jb hx;simp at hN
 | N+1,xs,b,hN,hx=>by
  intro k hk;cases hx with
  | one x body _ hs h7 hbd=>
   obtain ⟨ps,hc,rfl,hK⟩:=J8 hbd;rw [List.length_cons] at hN hk;match k,hk with
   | k+1,hk=>
    have hall:=Jq hK;rw [Zic m false k x hK];have hp':∀p∈ps,∀q,Zt m false k p=some q->Ex (.one (x.op==6)) q/\q.length<=p.length:=λp hpm q hq=>by
     have hle:=Vk hpm;rcases Zz5 hm N p _ (by omega) (hall p hpm) k (by omega) with h | ⟨ys,h,h'⟩
     . rw [h] at hq;cases hq
     . rw [h] at hq;injection hq with hq;subst hq;exact h'
    have e:=V9 m x;rcases Y5 (Zt m false k) ps with h | ⟨qs,h,hlq,hq⟩
    . rw [h];exact .inl rfl
    . have hle:=Ua _ _ _ h (λp hpm q hq=>(hp' p hpm q hq).2);have hvq:∀q∈qs,Ex (.one (x.op==6)) q:=λq hqm=>by obtain ⟨p,h1,h2⟩:=hq q hqm;exact (hp' p h1 q h2).1
      rw [h];simp only [Bool.false_eq_true,and_false,if_false];by_cases h6:x.op=6
      . rw [if_pos h6];rw [show (x.op==6)=true from by simp [h6]] at hvq;by_cases hnd:(Zi qs).Nodup
        . rw [if_pos hnd];refine .inr ⟨_,rfl,.one _ _ b (Za8 hm hs) (by rw [e.1];exact h7) ?_,?_⟩
          . have:=Qe _ _ _ (Zbf hvq hnd);rw [Zcx,e.1,<-hc,<-hlq,<-(Zn qs).length_eq,h6];exact this
          . rw [List.length_cons,List.length_cons,(Zn qs).flatten.length_eq];omega
        . rw [if_neg hnd];exact .inl rfl
      . rw [if_neg h6];rw [show (x.op==6)=false from by simp [h6]] at hvq;refine .inr ⟨_,rfl,.one _ _ b (Za8 hm hs) (by rw [e.1];exact h7) ?_,?_⟩
        . have:=Qe _ _ ⟨#[]⟩ (Zct hvq);rw [Zcx,e.1,<-hc,<-hlq,show (x.op==6)=false from by simp [h6]];exact this
        . rw [List.length_cons,List.length_cons];omega
theorem Jc {F:List Nd->List Nd}:∀(ps:List (List Nd)),(∀p∈ps,(F p).length=p.length)->(ps.map F).flatten.length=ps.flatten.length
 | [],_=>rfl
 | p :: ps,h=>by rw [List.map_cons,List.flatten_cons,List.flatten_cons,List.length_append,List.length_append,h p (by simp),Jc ps λq hq=>h q (by simp [hq])]
theorem map_id {α:Type}{f:α->α}:∀(l:List α),(∀x∈l,f x=x)->l.map f=l
 | [],_=>rfl
 | x :: l,h=>by rw [List.map_cons,h x (by simp),map_id l λy hy=>h y (by simp [hy])]
theorem Za7 {ps:List (List Nd)}{l:ByteArray}(h:ExK true l ps):(Zi ps).Pairwise (· < ·):=(Zni h).1
theorem Zzg {ps qs:List (List Nd)}{l:ByteArray}(h:ExK true l ps)(hp:qs.Perm ps):(Zi qs).Nodup/\Xp qs=ps:=by
 have h1:=Za7 h;have h2:(Zi qs).Nodup:=(hp.map _).nodup_iff.2 (Zat h1);exact ⟨h2,Zh5 (Zaw h2) h1 ((Zn qs).trans hp)⟩
theorem Z28 {m:Mv}(hm:Zq m=0){xs:List Nd}(h:Vx xs):xs.length<=200->(∀x∈xs,Z7 m x=true->x.s.toList≠m.to_.toList)->∀k,xs.length<=k ->
 ∃ys,Zt m true k xs=some ys/\Vx ys/\ys.length=xs.length/\ys.head? = xs.head?.map (ren m)/\Zt (Qm m) true k ys=some xs:=by
 induction h with
 | leaf n hs h5 h6 h7=>
  intro hl hf k hk;match k,hk with
  | k+1,hk=>
   have:=V9 m n;refine ⟨_,Zag m true k h5 h6,.leaf _ (Vw hm hs) (by omega) (by omega) (by omega),by simp,rfl,?_⟩;rw [Zag (Qm m) true k (by omega) (by omega),Zo2 (hf n (by simp))]
 | set n ps hs h5 hn hv hc ih=>
  intro hl hf k hk;rw [List.length_cons] at hl hk;match k,hk with
  | k+1,hk=>
   have hlen:∀p∈ps,p.length<=ps.flatten.length:=λp hp=>Vk hp;have gm:∀p∈ps,∃ys,Zt m true k p=some ys/\Vx ys/\ys.length=p.length/\ys.head? = p.head?.map (ren m)/\Zt (Qm m) true k ys=some p:=λp hp=>
    ih p hp (by have:=hlen p hp;omega) (λx hx=>hf x (by simp;exact .inr ⟨p,hp,hx⟩)) k (by have:=hlen p hp;omega)
   have em:=K4 (Zt m true k) ps (λp hp=>by obtain ⟨y,h,_⟩:=gm p hp;exact ⟨y,h⟩);generalize hF:(λp=>(Zt m true k p).getD default)=F at em;have fm:∀p∈ps,Vx (F p)/\(F p).length=p.length/\Zt (Qm m) true k (F p)=some p:=λp hp=>by
    obtain ⟨y,h,h1,h2,_,h3⟩:=gm p hp;have:F p=y:=(by rw [<-hF];simp [h]);rw [this];exact ⟨h1,h2,h3⟩
   have h6:¬n.op=6:=(by omega);have hpw:=(Zjr hc).1;have hnd:(ps.map F).Nodup:=by
    rw [List.Nodup,List.pairwise_map];refine hpw.imp_of_mem ?_;intro a b ha hb hab e;have e1:=(fm a ha).2.2;rw [e,(fm b hb).2.2] at e1;injection e1 with e1
    subst e1;exact Qa _ hab
   have hvq:∀q∈ps.map F,Vx q:=λq hq=>by obtain ⟨p,hp,rfl⟩:=List.mem_map.1 hq;exact (fm p hp).1
   have hfl:=Jc ps (F:=F) λp hp=>(fm p hp).2.1;obtain ⟨a1,a2,a3⟩:=Zch hvq (by omega);have hperm:=Qt hnd;have hren:ren m n=n:=(by unfold ren Z7;simp [h5]);have hn5:n=⟨5,ps.length,⟨#[]⟩,⟨#[]⟩⟩:=by
    simp [Zj,h5] at hs;have e1:n.s=⟨#[]⟩:=Uy (by rw [hs.1.2,ByteArray.toList_eq]);have e2:n.t=⟨#[]⟩:=Uy (by rw [hs.2,ByteArray.toList_eq]);cases n;simp at h5 hn e1 e2;simp [h5,hn,e1,e2]
   refine ⟨Yb (ps.map F),?_,a2,?_,?_,?_⟩
   . rw [Xa m true k n λp hp=>⟨_,Vf (hv p hp)⟩,em];simp only [h5,show ¬(5:Int)=6 from by omega,if_false,if_true,true_and,a1]
   . unfold Yb;rw [List.length_cons,List.length_cons,hperm.flatten.length_eq,hfl]
   . show some _=some _;rw [hren,hn5,hperm.length_eq,List.length_map]
   . unfold Yb;rw [Xa (Qm m) true k _ λq hq=>⟨_,Vf (hvq q (Xk hq))⟩];have gb:∀q∈Yd (ps.map F),∃p∈ps,q=F p:=λq hq=>by
      obtain ⟨p,hp,rfl⟩:=List.mem_map.1 (Xk hq);exact ⟨p,hp,rfl⟩
     rw [K4 _ _ (λq hq=>by obtain ⟨p,hp,rfl⟩:=gb q hq;exact ⟨p,(fm p hp).2.2⟩)];generalize hG:(λq=>(Zt (Qm m) true k q).getD default)=G;have hgf:(ps.map F).map G=ps:=by
      rw [List.map_map];refine map_id ps λp hp=>?_;show G (F p)=p;rw [<-hG];simp [(fm p hp).2.2]
     have hpG:((Yd (ps.map F)).map G).Perm ps:=(hperm.map G).trans (List.Perm.of_eq hgf);obtain ⟨b1,_,_⟩:=Zch (qs:=(Yd (ps.map F)).map G) (λq hq=>hv q (hpG.mem_iff.1 hq)) (by rw [hpG.flatten.length_eq];omega);simp only [show ¬(5:Int)=6 from by omega,if_false,if_true,true_and,b1];unfold Yb;rw [Zoh hpG hpw,<-hn5]
 | rcd n ps hs h6 hn h1 h2 h3 hc ih=>
  intro hl hf k hk;rw [List.length_cons] at hl hk;match k,hk with
  | k+1,hk=>
   have hex:∀p∈ps,Ex (.one true) p:=λp hp=>by
    obtain ⟨f,v,rfl⟩:=h1 p hp;obtain ⟨a1,a2⟩:=h2 f v hp;exact Zbm a1 a2 (Vf (h3 f v hp))
   have hK:=Zem hex hc;have gm:∀p∈ps,∃ys,Zt m true k p=some ys/\Fx ys/\ys.length=p.length/\ys.head? = p.head?.map (ren m)/\Zt (Qm m) true k ys=some p:=λp hpm=>by
    have hle:=Vk hpm;have hfp:∀x∈p,Z7 m x=true->x.s.toList≠m.to_.toList:=λx hx=>hf x (by simp;exact .inr ⟨p,hpm,hx⟩);obtain ⟨f,v,rfl⟩:=h1 p hpm;obtain ⟨a1,a2⟩:=h2 f v hpm;rw [List.length_cons] at hle;match k,hk with
    | 0,hk=>omega
    | k+1,hk=>
     obtain ⟨ys,c1,c2,c3,_,c4⟩:=ih f v hpm (by omega) (λx hx=>hfp x (by simp [hx])) k (by omega);refine ⟨ren m f :: ys,by rw [Zas m true k (Vf (h3 f v hpm)) a1,c1];rfl,⟨_,ys,rfl,by rw [(V9 m f).1];exact a1,Vw hm a2,c2⟩,by simp [c3],rfl,?_⟩;rw [Zas (Qm m) true k (Vf c2) (by rw [(V9 m f).1];exact a1),c4,Option.map_some,Zo2 (hfp f (by simp))]
   have em:=K4 (Zt m true k) ps (λp hp=>by obtain ⟨y,h,_⟩:=gm p hp;exact ⟨y,h⟩);generalize hF:(λp=>(Zt m true k p).getD default)=F at em;have fm:∀p∈ps,Fx (F p)/\(F p).length=p.length/\(F p).head? = p.head?.map (ren m)/\Zt (Qm m) true k (F p)=some p:=λp hp=>by
    obtain ⟨y,h,h1,h2,h4,h3⟩:=gm p hp;have:F p=y:=(by rw [<-hF];simp [h]);rw [this];exact ⟨h1,h2,h4,h3⟩
   have hvq:∀q∈ps.map F,Fx q:=λq hq=>by obtain ⟨p,hp,rfl⟩:=List.mem_map.1 hq;exact (fm p hp).1
   have heq:∀q∈ps.map F,Ex (.one true) q:=λq hqm=>by obtain ⟨f,v,rfl,a,b,c⟩:=hvq q hqm;exact Zbm a b (Vf c)
   have hfl:=Jc ps (F:=F) λp hp=>(fm p hp).2.1;have hpf:∀p∈ps,∃x xs,p=x :: xs/\x.op=7:=λp hp=>by
    obtain ⟨f,v,rfl⟩:=h1 p hp;exact ⟨f,v,rfl,(h2 f v hp).1⟩
   have hhd:(ps.map F).map List.head? = ps.map λp=>p.head?.map (ren m):=by
    rw [List.map_map];exact List.map_congr_left λp hp=>(fm p hp).2.2.1
   have hnd:(Zi (ps.map F)).Nodup:=Zlj hhd hpf (λp hp x hx=>hf x (by simp;exact .inr ⟨p,hp,hx⟩)) (Zat (Za7 hK));have e:=V9 m n;have hren:ren m n=n:=(by unfold ren Z7;simp [h6]);refine ⟨ren m n :: (Xp (ps.map F)).flatten,?_,?_,?_,rfl,?_⟩
   . rw [Xa m true k n λp hp=>⟨_,hex p hp⟩,em];simp only [h6,if_true];rw [if_pos hnd]
   . exact .rcd' (Vw hm hs) (by omega) (by rw [e.2.1,hn,(Zn _).length_eq,List.length_map]) (λp hp=>hvq p ((Zn _).mem_iff.1 hp)) (Zep (Zbf heq hnd))
   . rw [List.length_cons,List.length_cons,(Zn _).flatten.length_eq,hfl]
   . rw [Xa (Qm m) true k _ λq hq=>⟨_,heq q ((Zn _).mem_iff.1 hq)⟩];have gb:∀q∈Xp (ps.map F),∃p∈ps,q=F p:=λq hq=>by
      obtain ⟨p,hp,rfl⟩:=List.mem_map.1 ((Zn _).mem_iff.1 hq);exact ⟨p,hp,rfl⟩
     rw [K4 _ _ (λq hq=>by obtain ⟨p,hp,rfl⟩:=gb q hq;exact ⟨p,(fm p hp).2.2.2⟩)];generalize hG:(λq=>(Zt (Qm m) true k q).getD default)=G;have hgf:(ps.map F).map G=ps:=by
      rw [List.map_map];refine map_id ps λp hp=>?_;show G (F p)=p;rw [<-hG];simp [(fm p hp).2.2.2]
     have hpG:((Xp (ps.map F)).map G).Perm ps:=((Zn _).map G).trans (List.Perm.of_eq hgf);obtain ⟨b1,b2⟩:=Zzg hK hpG;simp only [e.1,h6,if_true];rw [if_pos b1,b2,hren];have:ren (Qm m) n=n:=(by unfold ren Z7;simp [h6]);rw [this]
def Z1p (m:Mv)(v:List Nd):Option (List Nd):=Zt m true v.length v
end Go.Proofs.YtpheiojmcafolaaGreatDoor
