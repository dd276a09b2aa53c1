/-
 THE WALKS: slices.Clone and slices.CompactFunc of lists of nodes, by val.order. THE WALK: slices.CompactFunc of lists of nodes, by val.order. THE WALKS: slices.Clone of lists of nodes; the sort by val.order; val.SetOf. THE WALK: val.SetOf, of values.
-/
import Derived.Test.YtpheiojmcafolaaGreatDoorSz12
set_option maxRecDepth 100000
set_option maxHeartbeats 25600000
namespace Go.Proofs.YtpheiojmcafolaaGreatDoor
open Go.RowKit Go.Sort
def ddA:NsM->List NsM->List NsM
 | _,[]=>[]
 | a,b :: r=>if Zz b.e a.e=0 then ddA b r else b :: ddA b r
def ddP:List NsM->List NsM
 | []=>[]
 | a :: l=>a :: ddA a l
theorem Zje:∀(l:List NsM) (a:NsM),(ddA a l).map NsM.e=Je a.e (l.map NsM.e)
 | [],a=>rfl
 | b :: r,a=>by
  rw [ddA,List.map_cons,Je];by_cases h:Zz b.e a.e=0
  . have e:=Us.eq _ _ h;have h':Zz a.e b.e=0:=(by rw [e,Us.self]);rw [if_pos h,if_pos h',Zje r b,e]
  . have h':¬Zz a.e b.e=0:=λhh=>h (by rw [Us.eq _ _ hh,Us.self]);rw [if_neg h,if_neg h',List.map_cons,Zje r b]
theorem Z5n (l:List NsM):(ddP l).map NsM.e=Zav (l.map NsM.e):=by
 cases l with
 | nil=>rfl
 | cons a l=>rw [ddP,List.map_cons,Zje,List.map_cons,Zav]
theorem Zmt:∀(l:List NsM) (a:NsM),(ddA a l).Sublist l
 | [],a=>by simp [ddA]
 | b :: r,a=>by
  rw [ddA];split
  . exact (Zmt r b).cons _
  . exact (Zmt r b).cons_cons _
theorem Zne:∀(l:List NsM),(ddP l).Sublist l
 | []=>.slnil
 | a :: l=>(Zmt l a).cons_cons _
theorem Zo1:∀(l:List NsM) (a x b:NsM),(a :: l).getLast? = some x->ddA a (l ++ [b])=ddA a l++(if Zz b.e x.e=0 then [] else [b])
 | [],a,x,b,h=>by
  simp at h;subst h;simp only [List.nil_append,ddA]
 | c :: r,a,x,b,h=>by
  have h':(c :: r).getLast? = some x:=by rw [<-h];rfl
  have ih:=Zo1 r c x b h';rw [List.cons_append,ddA,ddA];split
  . exact ih
  . rw [ih];rfl
theorem Zpu {ms:List NsM}{j:Nat}{a b:NsM}(ha:ms[j]? = some a)(hb:ms[j+1]? = some b):ddP (ms.take (j+1+1))=ddP (ms.take (j+1))++(if Zz b.e a.e=0 then [] else [b]):=by
 have e1:ms.take (j+1+1)=ms.take (j+1) ++ [b]:=by rw [List.take_add_one,hb];rfl
 have e2:ms.take (j+1)=ms.take j ++ [a]:=by rw [List.take_add_one,ha];rfl
 have hl:(ms.take (j+1)).getLast? = some a:=by rw [e2];simp
 rw [e1];cases h:ms.take (j+1) with
 | nil=>rw [h] at hl;simp at hl
 | cons c r=>
  rw [h] at hl;rw [List.cons_append,ddP,ddP,Zo1 r c a b hl];rfl
theorem Zew {w w':World}{q:Option Nat}(h:RowKit.Below w.heap.size w w'):w.grownBy w' q:=⟨h.os,h.tape,h.output,h.size,λk hk _=>h.block k hk⟩
theorem Zd8 {base g n cap:Nat}{e:TypeId}:∀(vs:List Value) (o:Nat) (w:World) (xs:List Value) (kk:Nat),w.ownsRow base e 1 (.slice (some ⟨g,0,none⟩) n cap) n xs->kk<=o ->
 ∃xs',(w.setCells g o vs).ownsRow base e 1 (.slice (some ⟨g,0,none⟩) n cap) n xs'/\xs'.take kk=xs.take kk/\w.grownBy (w.setCells g o vs) (some g)
 | [],o,w,xs,kk,h,_=>⟨xs,h,rfl,⟨rfl,rfl,rfl,nL _,λ_ _ _=>rfl⟩⟩
 | v :: vs,o,w,xs,kk,h,hk=>by
  obtain ⟨h1,h2⟩:=h.stored o v;obtain ⟨xs',a,b,c⟩:=Zd8 vs (o+1) _ _ kk h1 (by omega);refine ⟨xs',a,?_,h2.trans c⟩;rw [b,List.take_set_of_le hk]
theorem Zqf {w:World}{base g n cap kk:Nat}{e:TypeId}{xs:List Value}(h:w.ownsRow base e 1 (.slice (some ⟨g,0,none⟩) n cap) n xs)(hk:kk<=n):w.ownsRow base e 1 (.slice (some ⟨g,0,none⟩) kk cap) kk (xs.take kk):=by
 have hl:=h.1;rcases h.2 with ⟨h',_⟩ | ⟨g',cap',cur,h',hb,hg,hnc,hcm,hcs,htake⟩
 . simp at h'
 . simp only [Value.slice.injEq,Option.some.injEq,Addr.mk.injEq,and_true,true_and] at h';obtain ⟨rfl,rfl⟩:=h';refine ⟨by rw [List.length_take];omega,.inr ⟨g,cap,cur,rfl,hb,hg,by omega,hcm,hcs,?_⟩⟩;rw [<-htake,List.take_take];congr 1
   omega
theorem Zbs {w:World}{base g n cap:Nat}{ms:List NsM}(h:w.ownsRow base 22 1 (.slice (some ⟨g,0,none⟩) n cap) n (Zr NsM.cells ms)){i:Nat}{x:NsM}(hx:ms[i]? = some x):w.cell? ⟨g,i,none⟩=some (.slice x.A x.e.length x.c)/\w.frozen? ⟨g,i,none⟩=false/\i < n:=by
 have hi:=(List.getElem?_eq_some_iff.1 hx).1;have hl:=h.1;rw [U6,List.length_map] at hl;refine ⟨?_,?_,by omega⟩
 . rw [h.cellAt i (by omega),U6,List.getElem?_map,hx];rfl
 . rcases h.2 with ⟨h',_⟩ | ⟨g',cap',cur,h',hb,hg,_⟩
   . simp at h'
   . simp only [Value.slice.injEq,Option.some.injEq,Addr.mk.injEq,and_true,true_and] at h';obtain ⟨rfl,rfl⟩:=h';simp [World.frozen?,hg]
theorem Zfs (b o n c k:Nat)(hk:k < n)(W:World):(Instr.indexAt 152 (.slice (some ⟨b,o,none⟩) n c) (.int .i64 (k:Int))).run Tryz.prog W=.ok (.pointer (some ⟨b,o+k,none⟩)) W:=by
 go_simp
theorem Zif (b o n c k:Nat)(hk:k+1 < n)(W:World):(Instr.indexAt 152 (.slice (some ⟨b,o,none⟩) n c) (.int .i64 ((k:Int)+1))).run Tryz.prog W=.ok (.pointer (some ⟨b,o+(k+1),none⟩)) W:=by
 have:=Zfs b o n c (k+1) hk W;rwa [Int.natCast_add,Int.natCast_one] at this
theorem Z0a (x y:NsM)(W:World)(gx:Yq W W.heap.size x)(gy:Yq W W.heap.size y) :
 Calls Tryz.prog 166 #[.slice x.A x.e.length x.c,.slice y.A y.e.length y.c] W λr w'=>r=.returned (.bool (Zz x.e y.e==0))/\RowKit.Below W.heap.size W w':=by
 have HO:=Ld (Zfw x.A y.A x.c y.c x.e y.e W gx.sl gy.sl (Nat.le_trans gx.le gx.max) (Nat.le_trans gy.le gy.max));clear gx gy;generalize Zz x.e y.e=k at HO ⊢;go_enter Tryz.func166,Tryz.ntmps166
 go_wp2_with fail
 refine HO.out.mono ?_;rintro r w1 ⟨rfl,hb1⟩;go_wp2_with fail
 go_ret
 exact ⟨rfl,hb1⟩
theorem Z2o {cur:List NsM}{kk:Nat}{b:NsM}(h:kk < cur.length):(cur.set kk b).take (kk+1)=cur.take kk ++ [b]:=by
 rw [List.take_add_one,List.take_set_of_le (nL _),List.getElem?_set_self h];rfl
theorem Zvs (cur:List NsM)(kk:Nat)(b:NsM):(Zr NsM.cells cur).set kk (.slice b.A b.e.length b.c)=Zr NsM.cells (cur.set kk b):=by
 rw [U6,U6,List.map_set];rfl
theorem Zj8 (base g cap:Nat)(ms:List NsM)(w:World)(hown:w.ownsRow base 22 1 (.slice (some ⟨g,0,none⟩) ms.length cap) ms.length (Zr NsM.cells ms))(hof:∀y∈ms,Vd w (some g) y)(hl:ms.length<=1000)(hcap:ms.length<=cap)(hcm:cap<=9223372036854775807) :
 Calls Tryz.prog 165 #[.slice (some ⟨g,0,none⟩) ms.length cap,.func (.func 166) #[] #[]] w λr w'=>r=.returned (.slice (some ⟨g,0,none⟩) (ddP ms).length cap) /\
  w'.ownsRow base 22 1 (.slice (some ⟨g,0,none⟩) (ddP ms).length cap) (ddP ms).length (Zr NsM.cells (ddP ms))/\w.grownBy w' (some g):=by
 have HO:=Ld hown;have HN:=Ld hof;have hgl:base<=g/\g < w.heap.size:=Yf hown rfl;have HD:Hid (ms.length < 2->ddP ms=ms):=by
  intro h;match ms,h with
  | [],_=>rfl
  | [a],_=>rfl
  | a :: b :: r,h=>simp at h;omega
 clear hown hof;by_cases h2:ms.length < 2
 . have HE:Hid (ddP ms=ms):=HD.out h2;clear HD;go_enter Tryz.func165,Tryz.ntmps165
   go_wp2_with fail
   go_ret
   rw [HE.out];exact ⟨rfl,HO.out,⟨rfl,rfl,rfl,nL _,λ_ _ _=>rfl⟩⟩
 . clear HD;have hd2:decide ((ms.length:Int) < 2)=false:=by simp;omega
   go_enter Tryz.func165,Tryz.ntmps165
   go_wp2_with fail
   go_loopw [5] (λiv wr=>∃i:Nat,iv=.int .i64 i/\1<=i/\i<=ms.length/\Hid (ddP (ms.take i)=ms.take i)/\Hid (wr.ownsRow base 22 1 (.slice (some ⟨g,0,none⟩) ms.length cap) ms.length (Zr NsM.cells ms))/\Hid (w.grownBy wr (some g))) (λiv _=>ms.length - (intOf iv).toNat)
   case atStart=>
    refine ⟨1,rfl,nL _,by omega,?_,HO.out,⟨rfl,rfl,rfl,nL _,λ_ _ _=>rfl⟩⟩;show _=_;match ms,h2 with
    | [],h=>simp at h
    | a :: r,_=>rfl
   case round=>
    obtain ⟨i,rfl,hi1,hin,HDD,HOr,HGr⟩:=hrel;have hgr:g < wr.heap.size:=(Yf HOr.out rfl).2;by_cases hlt:i < ms.length
    . obtain ⟨t,rfl⟩:∃t,i=t+1:=⟨i - 1,by omega⟩;obtain ⟨a,ha⟩:∃a,ms[t]? = some a:=⟨_,gE (by omega)⟩;obtain ⟨b,hb⟩:∃b,ms[t+1]? = some b:=⟨_,gE hlt⟩;have c0:=(Zbs HOr.out ha).1;have c1:=(Zbs HOr.out hb).1;have HST:=Ld (Zpu ha hb);have HEQ:=Ld (λW (hW:RowKit.Below wr.heap.size wr W)=>Z0a b a W ((((HN.out b (mG hb)).grown HGr.out (.inl rfl)).later hW).good) ((((HN.out a (mG ha)).grown HGr.out (.inl rfl)).later hW).good));have HA:=Ld ha;have HB:=Ld hb;clear ha hb;have q1:=Zif g 0 ms.length cap t hlt;have q0:=Zfs g 0 ms.length cap t (by omega);rw [Nat.zero_add] at q0 q1;have j0:IntKind.i64.wrap (t:Int)=(t:Int):=(by rw [IntKind.wrap_i64];omega);by_cases hq:Zz b.e a.e=0
      . have tq:(Zz b.e a.e==0)=true:=(by simp [hq]);have HDD2:Hid (ddP (ms.take (t+1+1))=ms.take (t+1)):=by
         show _=_;rw [HST.out,HDD.out,if_pos hq,List.append_nil]
        clear hq HST HDD;go_wp2_with fail
        refine Yg (S:=λW'=>W'.cell? ⟨g,t+1,none⟩=some (.slice b.A b.e.length b.c)/\W'.cell? ⟨g,t,none⟩=some (.slice a.A a.e.length a.c)) [false,false,false,false,false,false,false,false,false,false,true] (by kernel_rfl) (by kernel_rfl) (λ_ _ _ _ _ h=>h) ⟨c1,c0⟩ (λhW'=>?_);simp only [List.zip_cons_cons,List.zip_nil_left];(repeat ((first | (refine Ze (v:=?_) (by rfl) ?_ ?_;rotate_left;(focus (intro W hW;obtain ⟨s0',s1'⟩:=hW;go_simp;try with_reducible rfl))) | refine Zd (by rfl) ?_);simp only [Act.put,pA,pB,pC]))
        refine Zc (λK hK=>?_);go_simp
        refine (HEQ.out _ (by (repeat (first | assumption | exact bR | apply bD | apply Za | refine bA ?_ _)))).mono ?_;rintro r w1 ⟨rfl,hb1'⟩;have hb1:=Ya hb1';refine hK _ _ ⟨(hb1.cell (p:=⟨g,t+1,none⟩) hgr).trans c1,(hb1.cell (p:=⟨g,t,none⟩) hgr).trans c0⟩ ?_;clear hK K;refine Yj ?_;have HO1:=Ld (Zu HOr.out hb1);have HG1:Hid (w.grownBy w1 (some g)):=HGr.out.trans (Zew hb1);have qs:∀W:World,(Instr.slice 152 (.slice (some ⟨g,0,none⟩) ms.length cap) (some (.int .i64 ((t:Int)+1))) none none).run Tryz.prog W=.ok (.slice (some ⟨g,t+1,none⟩) (ms.length - (t+1)) (cap - (t+1))) W:=by
         intro W;go_simp
         rw [if_neg (show ¬cap=t+1 by omega),if_pos (by omega)]
        clear hb1 hb1' q0 q1 c0 c1 HOr HGr HEQ hgr;go_wp2_with fail
        obtain ⟨wo,hwo⟩:∃wo:World,wo=wr:=⟨_,rfl⟩;clear hwo;try simp only [tq]
        go_loopw [5,7] (λiv kv wr=>∃(kk k:Nat) (cur:List NsM),iv=.int .i64 kk/\kv=.int .i64 k/\1<=k/\t+1+k<=ms.length/\kk < t+1+k/\Hid (cur.length=ms.length)/\Hid (cur.take kk=ddP (ms.take (t+1+k)))/\Hid (∀j,t+k<=j->cur[j]? = ms[j]?) /\
         Hid (wr.ownsRow base 22 1 (.slice (some ⟨g,0,none⟩) ms.length cap) ms.length (Zr NsM.cells cur))/\Hid (w.grownBy wr (some g))) (λ_ kv _=>ms.length - (intOf kv).toNat)
        case atStart=>exact ⟨t+1,1,ms,by go_num,rfl,nL _,by omega,by omega,rfl,HDD2.out.symm,λ_ _=>rfl,HO1.out,HG1.out⟩
        case round=>
         obtain ⟨kk,k,cur,rfl,rfl,hk1,hkn,hkk,HCL,HCT,HCD,HOr,HGr⟩:=hrel;have hgr:g < wr.heap.size:=(Yf HOr.out rfl).2;by_cases hlt2:t+1+k < ms.length
         . obtain ⟨k',rfl⟩:∃k',k=k'+1:=⟨k - 1,by omega⟩;obtain ⟨y,hy⟩:∃y,ms[t+1+k']? = some y:=⟨_,gE (by omega)⟩;obtain ⟨x,hx⟩:∃x,ms[t+1+k'+1]? = some x:=⟨_,gE (by omega)⟩;have hcy:cur[t+1+k']? = some y:=(by rw [HCD.out _ (by omega)];exact hy);have hcx:cur[t+1+k'+1]? = some x:=(by rw [HCD.out _ (by omega)];exact hx);have d0:=(Zbs HOr.out hcy).1;have d1:=(Zbs HOr.out hcx).1;have HST2:=Ld (Zpu hy hx);have HEQ2:=Ld (λW (hW:RowKit.Below wr.heap.size wr W)=>Z0a x y W ((((HN.out x (mG hx)).grown HGr.out (.inl rfl)).later hW).good) ((((HN.out y (mG hy)).grown HGr.out (.inl rfl)).later hW).good));have HX:=Ld hx;clear hx hy hcx hcy;have q1:=Zif g (t+1) (ms.length - (t+1)) (cap - (t+1)) k' (by omega);have q0:=Zfs g (t+1) (ms.length - (t+1)) (cap - (t+1)) k' (by omega);rw [show t+1+(k'+1)=t+1+k'+1 from by omega] at q1;have j2:IntKind.i64.wrap (k':Int)=(k':Int):=(by rw [IntKind.wrap_i64];omega);have hlt3:k'+1 < ms.length - (t+1):=(by omega);have hcc:kk < cur.length:=(by rw [HCL.out];omega);by_cases hq2:Zz x.e y.e=0
           . have tq2:(Zz x.e y.e==0)=true:=(by simp [hq2]);have HCT2:Hid (cur.take kk=ddP (ms.take (t+1+(k'+1+1)))):=by
              show _=_;rw [HCT.out,show t+1+(k'+1+1)=t+1+k'+1+1 from by omega,HST2.out,if_pos hq2,List.append_nil,show t+1+(k'+1)=t+1+k'+1 from by omega]
             clear hq2 HST2 HCT;go_wp2_with fail
             refine Yg (S:=λW'=>W'.cell? ⟨g,t+1+k'+1,none⟩=some (.slice x.A x.e.length x.c)/\W'.cell? ⟨g,t+1+k',none⟩=some (.slice y.A y.e.length y.c)) [false,false,false,false,false,false,false,false,false,false,true,false] (by kernel_rfl) (by kernel_rfl) (λ_ _ _ _ _ h=>h) ⟨d1,d0⟩ (λhW'=>?_);simp only [List.zip_cons_cons,List.zip_nil_left];(repeat ((first | (refine Ze (v:=?_) (by rfl) ?_ ?_;rotate_left;(focus (intro W hW;obtain ⟨s0',s1'⟩:=hW;go_simp;try with_reducible rfl))) | refine Zd (by rfl) ?_);simp only [Act.put,pA,pB,pC]))
             refine Zc (λK hK=>?_);go_simp
             refine (HEQ2.out _ (by (repeat (first | assumption | exact bR | apply bD | apply Za | refine bA ?_ _)))).mono ?_;rintro r w2 ⟨rfl,hb2'⟩;have hb2:=Ya hb2';refine hK _ _ ⟨(hb2.cell (p:=⟨g,t+1+k'+1,none⟩) hgr).trans d1,(hb2.cell (p:=⟨g,t+1+k',none⟩) hgr).trans d0⟩ ?_;clear hK K;(repeat ((first | (refine Ze (v:=?_) (by rfl) ?_ ?_;rotate_left;(focus (intro W hW;obtain ⟨s0',s1'⟩:=hW;go_simp;try with_reducible rfl))) | refine Zd (by rfl) ?_);simp only [Act.put,pA,pB,pC]))
             refine Yj ?_;have HO2:=Ld (Zu HOr.out hb2);have HG2:Hid (w.grownBy w2 (some g)):=HGr.out.trans (Zew hb2);clear hb2 hb2' q0 q1 d0 d1 HOr HGr HEQ2 hgr;go_wp2_with fail
             exact ⟨⟨kk,k'+1+1,cur,rfl,by go_num,by omega,by omega,by omega,HCL,HCT2,λj hj=>HCD.out j (by omega),HO2,HG2⟩,by simp [intOf];omega⟩
           . have tq2:(Zz x.e y.e==0)=false:=(by simp [hq2]);have HCT2:Hid ((cur.set kk x).take (kk+1)=ddP (ms.take (t+1+(k'+1+1)))):=by
              show _=_;rw [Z2o hcc,HCT.out,show t+1+(k'+1+1)=t+1+k'+1+1 from by omega,HST2.out,if_neg hq2,show t+1+(k'+1)=t+1+k'+1 from by omega]
             clear hq2 HST2 HCT;go_wp2_with fail
             refine Yg (S:=λW'=>W'.cell? ⟨g,t+1+k'+1,none⟩=some (.slice x.A x.e.length x.c)/\W'.cell? ⟨g,t+1+k',none⟩=some (.slice y.A y.e.length y.c)) [false,false,false,false,false,false,false,false,false,false,true,false] (by kernel_rfl) (by kernel_rfl) (λ_ _ _ _ _ h=>h) ⟨d1,d0⟩ (λhW'=>?_);simp only [List.zip_cons_cons,List.zip_nil_left];(repeat ((first | (refine Ze (v:=?_) (by rfl) ?_ ?_;rotate_left;(focus (intro W hW;obtain ⟨s0',s1'⟩:=hW;go_simp;try with_reducible rfl))) | refine Zd (by rfl) ?_);simp only [Act.put,pA,pB,pC]))
             refine Zc (λK hK=>?_);go_simp
             refine (HEQ2.out _ (by (repeat (first | assumption | exact bR | apply bD | apply Za | refine bA ?_ _)))).mono ?_;rintro r w2 ⟨rfl,hb2'⟩;have hb2:=Ya hb2';refine hK _ _ ⟨(hb2.cell (p:=⟨g,t+1+k'+1,none⟩) hgr).trans d1,(hb2.cell (p:=⟨g,t+1+k',none⟩) hgr).trans d0⟩ ?_;clear hK K;(repeat ((first | (refine Ze (v:=?_) (by rfl) ?_ ?_;rotate_left;(focus (intro W hW;obtain ⟨s0',s1'⟩:=hW;go_simp;try with_reducible rfl))) | refine Zd (by rfl) ?_);simp only [Act.put,pA,pB,pC]))
             refine Yj ?_;have HO2:=Ld (Zu HOr.out hb2);have HG2:Hid (w.grownBy w2 (some g)):=HGr.out.trans (Zew hb2);have e1:w2.cell? ⟨g,t+1+k'+1,none⟩=some (.slice x.A x.e.length x.c):=(hb2.cell (p:=⟨g,t+1+k'+1,none⟩) hgr).trans d1;obtain ⟨old,hold⟩:∃old,cur[kk]? = some old:=⟨_,gE hcc⟩;obtain ⟨e2,e3,-⟩:=Zbs HO2.out hold;have HS2:Hid ((w2.setCell ⟨g,kk,none⟩ (.slice x.A x.e.length x.c)).ownsRow base 22 1 (.slice (some ⟨g,0,none⟩) ms.length cap) ms.length (Zr NsM.cells (cur.set kk x))/\w2.grownBy (w2.setCell ⟨g,kk,none⟩ (.slice x.A x.e.length x.c)) (some g)):=by
              have:=HO2.out.stored kk (.slice x.A x.e.length x.c);rw [Zvs] at this;exact this
             have HCL2:Hid ((cur.set kk x).length=ms.length):=(by show _=_;rw [List.length_set,HCL.out]);have HCD2:Hid (∀j,t+(k'+1+1)<=j->(cur.set kk x)[j]? = ms[j]?):=λj hj=>by
              rw [List.getElem?_set_ne (by omega)];exact HCD.out j (by omega)
             have hkn2:kk < ms.length:=(by omega);clear hb2 hb2' d0 d1 HOr HGr HEQ2 hgr hold;go_wp2_with fail
             exact ⟨⟨kk+1,k'+1+1,cur.set kk x,by go_num,by go_num,by omega,by omega,by omega,HCL2,HCT2,HCD2,HS2.out.1,HG2.out.trans HS2.out.2⟩,by simp [intOf];omega⟩
         . have hend:t+1+k=ms.length:=(by omega);have HCT2:Hid (cur.take kk=ddP ms):=by
            show _=_;rw [HCT.out,hend,List.take_of_length_le (nL _)]
           have hkk2:kk < ms.length:=(by omega);have HKL:Hid ((ddP ms).length=kk):=by
            show _=_;rw [<-HCT2.out,List.length_take,HCL.out];omega
           have hnl:¬k < ms.length - (t+1):=(by omega);have hcl:∀ty,(Builtin.clear_ #[152] ty #[.slice (some ⟨g,kk,none⟩) (ms.length - kk) (cap - kk)]).run Tryz.prog wr=.ok (.tuple #[]) (wr.setCells g kk (List.replicate (ms.length - kk) (.slice none 0 0))):=
            λty=>Lib.run_clear_slice wr _ _ ty _ Tryz.underlying152 Tryz.zeroValue22 rfl rfl g kk _ _ (by omega)
             (λj hj=>by
              obtain ⟨z,hz⟩:∃z,cur[kk+j]? = some z:=⟨_,gE (by rw [HCL.out];omega)⟩;rw [(Zbs HOr.out hz).1];rfl)
             (λj hj=>by
              obtain ⟨z,hz⟩:∃z,cur[kk+j]? = some z:=⟨_,gE (by rw [HCL.out];omega)⟩;exact (Zbs HOr.out hz).2.1)
           have q2:∀W:World,(Instr.slice 152 (.slice (some ⟨g,0,none⟩) ms.length cap) (some (.int .i64 (kk:Int))) none none).run Tryz.prog W=.ok (.slice (some ⟨g,kk,none⟩) (ms.length - kk) (cap - kk)) W:=by
            intro W;go_simp
            rw [if_neg (show ¬cap=kk by omega),if_pos (by omega)]
           have HFIN:Hid (∃xs',(wr.setCells g kk (List.replicate (ms.length - kk) (.slice none 0 0))).ownsRow base 22 1 (.slice (some ⟨g,0,none⟩) ms.length cap) ms.length xs'/\xs'.take kk=(Zr NsM.cells cur).take kk/\wr.grownBy (wr.setCells g kk (List.replicate (ms.length - kk) (.slice none 0 0))) (some g)):=Zd8 _ kk wr _ kk HOr.out (nL _);have hkc:kk<=cap:=(by omega);clear HOr hgr HCT;go_wp2_with fail
           go_ret
           obtain ⟨xs',f1,f2,f3⟩:=HFIN.out;refine ⟨by rw [HKL.out];rfl,?_,HGr.out.trans f3⟩;have f4:=Zqf f1 (show kk<=ms.length by omega);rw [f2,U6,<-List.map_take,HCT2.out,<-U6] at f4;rw [HKL.out];exact f4
      . have tq:(Zz b.e a.e==0)=false:=(by simp [hq]);have HDD2:Hid (ddP (ms.take (t+1+1))=ms.take (t+1+1)):=by
         show _=_;rw [HST.out,HDD.out,if_neg hq,show ms.take (t+1+1)=ms.take (t+1) ++ [b] from by rw [List.take_add_one,HB.out];rfl]
        clear hq HST HDD;go_wp2_with fail
        refine Yg (S:=λW'=>W'.cell? ⟨g,t+1,none⟩=some (.slice b.A b.e.length b.c)/\W'.cell? ⟨g,t,none⟩=some (.slice a.A a.e.length a.c)) [false,false,false,false,false,false,false,false,false,false,true] (by kernel_rfl) (by kernel_rfl) (λ_ _ _ _ _ h=>h) ⟨c1,c0⟩ (λhW'=>?_);simp only [List.zip_cons_cons,List.zip_nil_left];(repeat ((first | (refine Ze (v:=?_) (by rfl) ?_ ?_;rotate_left;(focus (intro W hW;obtain ⟨s0',s1'⟩:=hW;go_simp;try with_reducible rfl))) | refine Zd (by rfl) ?_);simp only [Act.put,pA,pB,pC]))
        refine Zc (λK hK=>?_);go_simp
        refine (HEQ.out _ (by (repeat (first | assumption | exact bR | apply bD | apply Za | refine bA ?_ _)))).mono ?_;rintro r w1 ⟨rfl,hb1'⟩;have hb1:=Ya hb1';refine hK _ _ ⟨(hb1.cell (p:=⟨g,t+1,none⟩) hgr).trans c1,(hb1.cell (p:=⟨g,t,none⟩) hgr).trans c0⟩ ?_;clear hK K;refine Yj ?_;have HO1:=Ld (Zu HOr.out hb1);have HG1:Hid (w.grownBy w1 (some g)):=HGr.out.trans (Zew hb1);clear hb1 hb1' q0 q1 c0 c1 HOr HGr HEQ hgr;go_wp2_with fail
        exact ⟨⟨t+1+1,by go_num,by omega,by omega,HDD2,HO1,HG1⟩,by simp [intOf];omega⟩
    . have hin2:i=ms.length:=(by omega);have HE:Hid (ddP ms=ms):=by
       have:=HDD.out;rw [hin2,List.take_of_length_le (nL _)] at this;exact this
      clear hin2 HDD;go_wp2_with fail
      go_ret
      rw [HE.out];exact ⟨rfl,HOr.out,HGr.out⟩
theorem Z3r {α β:Type}{c:β->β->Int}(h:SWO (ltOf c))(f:α->β):SWO (ltOf λx y:α=>c (f x) (f y)):=
 ⟨λx=>h.irrefl (f x),λx y z=>h.trans (f x) (f y) (f z),λx y z=>h.ntrans (f x) (f y) (f z)⟩
set_option maxRecDepth 100000 in
theorem Zx4 (ms:List NsM)(A:Option Addr)(c:Nat)(w:World)(hs:Z5g w w.heap.size A ms)(hl:ms.length<=1000) :
 Calls Tryz.prog 164 #[.slice A ms.length c] w λr w'=>∃v,r=.returned v/\w'.ownsRow w.heap.size 22 1 v ms.length (Zr NsM.cells ms)/\RowKit.Below w.heap.size w w':=by
 have q:∀(w:World) (a:Option Addr) (n c n' c':Nat),(binOp .eql 152 (.slice a n c) (.slice none n' c')).run Tryz.prog w=.ok (.bool a.isNone) w:=λw a n c n' c'=>Lib.run_eql_slice_nil w _ _ a n c n' c' Tryz.underlying152;obtain ⟨i0,hi,hz0,hz1,hz2⟩:=info_parts Zfd;cases A with
 | none=>
  have he:ms = []:=by
   cases ms with
   | nil=>rfl
   | cons x r=>obtain ⟨b,o,h,_⟩:=hs (List.cons_ne_nil _ _);cases h
  subst he;go_enter Tryz.func164,Tryz.ntmps164
  go_wp2_with fail
  go_ret
  exact ⟨_,rfl,World.ownsRow_nil _ _ _ _,RowKit.Below.refl _ _⟩
 | some a=>
  have hcells:∀j u,(Zr NsM.cells ms)[j]? = some u->(w.alloc (.cells #[] 22)).cell? (a.add j)=some u:=by
   intro j u hu;have hne:ms≠[]:=(by rintro rfl;simp [Zr] at hu);obtain ⟨b,o,h1,h2,_⟩:=hs hne;injection h1 with h1
   subst h1;exact SlG.flat_alloc Zbv hs h2 _ j u hu
  have HC:=Ld hcells;clear hcells hs;go_enter Tryz.func164,Tryz.ntmps164
  go_wp2_with (at_builtin;refine wpList_append_own _ rfl (.tmp 5) (.tmp 6) 152 rfl w.heap.size 22 i0 _ 1 24 Tryz.underlying152 hi hz0 hz1 hz2 rfl (by omega) _ _ _ rfl (World.ownsRow_made w #[] 0 (nL _) (Nat.zero_le _) (by simp)) a ms.length c (Zr NsM.cells ms) rfl (Zf7 Zbv ms) HC.out (Jy Zbv ms) (by unfold maxLen;omega) (by omega) (by simp) ?_)
  intro v' w1 hown hgrow hnil;go_wp2_with fail
  go_ret
  refine ⟨v',rfl,by simpa using hown,((RowKit.Below.refl _ w).alloc (nL _) _).grown hgrow (by simp) (by intro k hk;simp [Value.ownBlock] at hk;omega)⟩
theorem Z31:∀{ps qs:List (List Nd)},ps.Pairwise (λa b=>Zz a b<=0)->qs.Pairwise (λa b=>Zz a b<=0)->ps.Perm qs->ps=qs
 | [],qs,_,_,h=>(List.Perm.nil_eq h)
 | p :: ps,[],_,_,h=>absurd h.symm (λh=>by have:=List.Perm.nil_eq h;cases this)
 | p :: ps,q :: qs,hp,hq,h=>by
  have hp':=List.pairwise_cons.1 hp;have hq':=List.pairwise_cons.1 hq;have e:p=q:=by
   rcases List.mem_cons.1 (h.mem_iff.1 (List.mem_cons_self)) with e | h1
   . exact e
   . rcases List.mem_cons.1 (h.mem_iff.2 (List.mem_cons_self (a:=q))) with e | h2
     . exact e.symm
     . have a1:=hp'.1 _ h2;have a2:=hq'.1 _ h1;by_cases h0:Zz p q=0
       . exact Us.eq _ _ h0
       . have:=(Us.flip q p).2 (by omega);omega
  subst e;rw [Z31 hp'.2 hq'.2 (List.Perm.cons_inv h)]
theorem Zlz {ds qs:List (List Nd)}(hp:ds.Perm qs)(hs:∀(i j:Nat) (a b:List Nd),ds[i]? = some a->ds[j]? = some b->i < j->¬Zz b a < 0):Zav ds=Yd qs:=by
 have h1:ds.Pairwise λa b=>Zz a b<=0:=by
  rw [List.pairwise_iff_getElem];intro i j hi hj hij;have:=hs i j _ _ (gE hi) (gE hj) hij;have f:=Us.flip ds[i] ds[j];omega
 rw [Yd,Z31 h1 (Zf3 qs) (hp.trans (List.mergeSort_perm _ _).symm)]
theorem Zqj {w:World}{base:Nat}{v:Value}{ms:List NsM}(h:w.ownsRow base 22 1 v ms.length (Zr NsM.cells ms))(hl:ms.length < 4611686018427387904)(hof:∀y∈ms,Vd w v.ownBlock y) :
 Calls Tryz.prog 132 #[v,.func (.func 130) #[] #[]] w λr w'=>r=.returned (.tuple #[])/\∃ds:List NsM,ds.Perm ms/\Zav (ds.map NsM.e)=Yd (ms.map NsM.e) /\
  w'.ownsRow base 22 1 v ms.length (Zr NsM.cells ds)/\(∀y∈ds,Vd w' v.ownBlock y)/\w.grownBy w' v.ownBlock:=by
 refine (Zhu Tryz.sortL rfl (enters_of Tryz.func130 (by kernel_rfl) rfl) Zz h hl (λ_=>True) (λ_ _=>trivial) hof (Z3r Us.swo (λx:{x:NsM // True}=>x.1.e))
  (λx y W _ _ gx gy=>(Zr0 x.A y.A x.c y.c x.e y.e W gx.sl gy.sl (Nat.le_trans gx.le gx.max) (Nat.le_trans gy.le gy.max)).mono (by rintro r w' ⟨h1,h2,h3⟩;exact ⟨h1,Zhk h2 h3⟩))).mono ?_
 rintro r w' ⟨rfl,ds,h1,h2,h3,h4,h5⟩;refine ⟨rfl,ds,h1,Zlz (h1.map NsM.e) ?_,h3,h4,h5⟩;intro i j a b ha hb hij;rw [List.getElem?_map] at ha hb;obtain ⟨a',ha',rfl⟩:=Option.map_eq_some_iff.1 ha;obtain ⟨b',hb',rfl⟩:=Option.map_eq_some_iff.1 hb;exact h2 i j a' b' ha' hb' hij
set_option maxRecDepth 100000 in
theorem Zom (base:Nat)(ms:List NsM)(v:Value)(w:World)(hown:w.ownsRow base 22 1 v ms.length (Zr NsM.cells ms))(hof:∀y∈ms,Vd w v.ownBlock y)(hl:ms.length<=1000) :
 Calls Tryz.prog 165 #[v,.func (.func 166) #[] #[]] w λr w'=>∃v',r=.returned v' /\
  w'.ownsRow base 22 1 v' (ddP ms).length (Zr NsM.cells (ddP ms))/\(∀y∈ddP ms,Vd w' v'.ownBlock y)/\w.grownBy w' v.ownBlock:=by
 rcases hown.2 with ⟨hv,h0⟩ | ⟨g,cap,cur,hv,hbase,hb,h1,h2,h3,h4⟩
 . subst hv;obtain rfl:ms = []:=List.eq_nil_of_length_eq_zero h0;clear hown hof;go_enter Tryz.func165,Tryz.ntmps165
   go_wp2_with fail
   go_ret
   exact ⟨_,rfl,World.ownsRow_nil _ _ _ _,by simp [ddP],⟨rfl,rfl,rfl,nL _,λ_ _ _=>rfl⟩⟩
 . subst hv;unfold maxLen at h2;refine (Zj8 base g cap ms w hown hof hl h1 h2).mono ?_;rintro r w' ⟨rfl,a1,a2⟩;exact ⟨_,rfl,a1,λy hy=>(hof y ((Zne ms).subset hy)).grown a2 (.inl rfl),a2⟩
def X5 (w:World)(r:Ending)(w':World)(xs:List Nd)(k:Int):Prop:=
 ∃A c,r=.returned (.tuple #[.slice A xs.length c,Yh k])/\xs.length<=c/\c<=9223372036854775807/\Ye w' w'.heap.size A xs/\RowKit.Below w.heap.size w w'/\∀b o,A=some ⟨b,o,none⟩->w.heap.size<=b
theorem X5.none {w w':World}{k:Int}(h:RowKit.Below w.heap.size w w'):X5 w (.returned (.tuple #[.slice none 0 0,Yh k])) w' [] k:=
 ⟨Option.none,0,rfl,nL _,by omega,Ye.nil _ _ _,h,by simp⟩
theorem Jw {w:World}{base:Nat}{e:TypeId}{v:Value}{n:Nat}{xs:List Value}(h:w.ownsRow base e 4 v n xs):∃A c,v=.slice A n c/\n<=c:=by
 rcases h.2 with ⟨hv,h0⟩ | ⟨g,cap,cur,hv,_,_,h1,_⟩
 . exact ⟨none,0,by rw [hv,h0],by omega⟩
 . exact ⟨some ⟨g,0,none⟩,cap,hv,h1⟩
def Zm9 (ps:List (List Nd)):List Nd × Int:=if 200 < (Yb ps).length then ([],4) else (Yb ps,0)
theorem Z3k {ps:List (List Nd)}(h:Vl ps=0):V7 ps=Zm9 ps:=by unfold V7 Zm9;rw [if_neg (by simp [h])]
set_option maxRecDepth 100000 in
theorem Zkz (ms:List NsM)(A:Option Addr)(c:Nat)(w:World)(hs:X8 w A ms)(hv:∀y∈ms,Zb y.e=0)(hok:∀y∈ms,Y0 y.e)(hl:ms.length<=1000) :
 Calls Tryz.prog 135 #[.slice A ms.length c] w λr w'=>X5 w r w' (Zm9 (ms.map NsM.e)).1 (Zm9 (ms.map NsM.e)).2:=by
 obtain ⟨j0,hj,hy0,hy1,hy2⟩:=info_parts Ko;have HS:=Ld hs;have HC:=Ld (λW (hW:RowKit.Below w.heap.size w W) y (hy:y∈ms)=>by
  have g:=(hs.later hW).good y hy;have h:=Ve y.e y.A y.c W g.le g.max (hok y hy) g.sl;rw [hv y hy] at h;exact h)
 have HV:=Ld hv;clear hs hv hok;have t0:=Zv;go_enter Tryz.func135,Tryz.ntmps135
 go_wp2_with fail
 go_loopw [13] (λkk wr=>∃k:Nat,kk=.int .i64 k/\k<=ms.length/\RowKit.Below w.heap.size w wr) (λkk _=>ms.length - (intOf kk).toNat)
 case atStart=>exact ⟨0,rfl,by omega,RowKit.Below.refl _ _⟩
 case round=>
  obtain ⟨k,rfl,hk,hbr⟩:=hrel;have hzr:=hbr.size;by_cases hlt:k < ms.length
  . obtain ⟨⟨Ay,cy,ey⟩,hy⟩:∃y,ms[k]? = some y:=⟨_,gE hlt⟩;obtain ⟨b,o,hA,hb,hc0⟩:=V4 (HS.out.later hbr).sl hy;simp only at hc0;have HCy:=Ld (HC.out wr hbr _ (mG hy));simp only at HCy;subst hA;clear hy;go_wp2_with fail
    refine HCy.out.mono ?_;rintro r w1 ⟨rfl,hb1⟩;have hw1:=hbr.trans (hb1.mono hbr.size);clear hb1;go_wp2_with fail
    exact ⟨⟨k+1,by go_num,by omega,hw1⟩,by simp [intOf];omega⟩
  . have HSr:=Ld (HS.out.later hbr);have HCL:=Ld (Zx4 ms A c wr HSr.out.sl hl);clear HC;go_wp2_with fail
    refine HCL.out.mono ?_;rintro r w1 ⟨v,rfl,hown1,hb1⟩;have hw1:=hbr.trans (hb1.mono hbr.size);have hof1:∀y∈ms,Vd w1 v.ownBlock y:=λy hy=>(((HSr.out.good y hy).away (q:=v.ownBlock) (nL _) (λb hb=>(Yf hown1 hb).1)).later hb1);have HSO:=Ld (Zqj hown1 (by omega) hof1);have HL1:Hid (∀b,v.ownBlock=some b->wr.heap.size<=b):=λb hb=>(Yf hown1 hb).1;clear hown1 hof1 hb1;go_wp2_with fail
    refine HSO.out.mono ?_;rintro r w2 ⟨rfl,ds,hp2,hd2,hown2,hof2,hg2⟩;have hw2:RowKit.Below w.heap.size w w2:=hw1.grown hg2 hw1.size (λq hq=>by have:=HL1.out q hq;omega);have hdl:ds.length=ms.length:=hp2.length_eq;rw [<-hdl] at hown2;have HCO:=Ld (Zom _ ds v w2 hown2 hof2 (by omega));have HD2:=Ld hd2;have HP2:=Ld hp2;clear hown2 hof2 hg2 hd2 hp2;go_wp2_with fail
    refine HCO.out.mono ?_;rintro r w3 ⟨v3,rfl,hown3,hof3,hg3⟩;have hw3:RowKit.Below w.heap.size w w3:=hw2.grown hg3 hw2.size (λq hq=>by have:=HL1.out q hq;omega);have HSP:Hid ((ddP ds).map NsM.e=Yd (ms.map NsM.e)):=by
     show _=_;rw [Z5n];exact HD2.out
    have hql:(ddP ds).length<=1000:=(by have:=(Zne ds).length_le;omega);have HVQ:Hid (∀y∈ddP ds,y.e.length<=200/\y.e≠[]):=λy hy=>by
     have hm:=HP2.out.mem_iff.1 ((Zne ds).subset hy);have h1:=(Z0 y.e).1 (HV.out y hm);obtain ⟨x,r,e,_⟩:=h1.2.ne;exact ⟨h1.1,by rw [e];simp⟩
    generalize ddP ds=qs at hown3 hof3 HSP hql HVQ;obtain ⟨-,A3,c3,hv3,hc3,hcm3,hs3⟩:=Y1 Zbv hown3;subst hv3;have HS3:Hid (X8 w3 A3 qs):=⟨hs3,λy hy=>(hof3 y hy).good⟩;have HSV:Hid (Zm9 (ms.map NsM.e)=if 200 < (⟨5,qs.length,⟨#[]⟩,⟨#[]⟩⟩ :: Xl qs:List Nd).length then ([],4) else (⟨5,qs.length,⟨#[]⟩,⟨#[]⟩⟩ :: Xl qs,0)):=by
     show _=_;unfold Zm9 Yb;rw [<-HSP.out,Uv (ms:=qs) rfl,List.length_map]
    clear hown3 hof3 hg3 hs3 hdl HSP HD2 HP2;go_wp2_with fail
    obtain ⟨x0,hx0⟩:∃x0:Nd,x0=⟨5,qs.length,⟨#[]⟩,⟨#[]⟩⟩:=⟨_,rfl⟩;have HOL:=Ld (World.ownsRow_lit (base:=w3.heap.size) (e:=37) (size:=4) w3 #[.int .i64 5,.int .i64 qs.length,.string ⟨#[]⟩,.string ⟨#[]⟩] 1 (nL _) (by decide) (by simp));have HO0:Hid ((w3.alloc (.cells #[.int .i64 5,.int .i64 qs.length,.string ⟨#[]⟩,.string ⟨#[]⟩] 37)).ownsRow w3.heap.size 37 4 (.slice (some ⟨w3.heap.size,0,none⟩) 1 1) 1 (flat [x0])):=by
     have:=HOL.out;rw [hx0];simpa [flat,Nd.cells,Hid] using this
    have HX0:=Ld hx0;rw [<-hx0] at HSV;have hz3:=hw3.size;clear hx0 HOL;obtain ⟨wo,hwo⟩:∃wo:World,wo=wr:=⟨_,rfl⟩;clear hwo;go_loopw [8,35] (λov kk wr=>∃(k l:Nat),kk=.int .i64 k/\k<=qs.length/\l<=200/\Hid (l=(x0 :: Xl (qs.take k)).length)/\Hid (wr.ownsRow w3.heap.size 37 4 ov l (flat (x0 :: Xl (qs.take k))))/\RowKit.Below w3.heap.size w3 wr) (λ_ kk _=>qs.length - (intOf kk).toNat)
    case atStart=>exact ⟨0,1,rfl,by omega,by omega,by simp [Xl,Hid],by simpa [Xl,Hid] using HO0.out,by (repeat (first | assumption | exact bR | apply bD | apply Za | refine bA ?_ _))⟩
    case round=>
     obtain ⟨j,l,rfl,hj1,hl2,HLL,HOr,hbr3⟩:=hrel;have hzr3:=hbr3.size;by_cases hlt3:j < qs.length
     . obtain ⟨⟨Ay,cy,ey⟩,hy⟩:∃y,qs[j]? = some y:=⟨_,gE hlt3⟩;have HST:=Ld (Zcs hy);have h2:=Zbo (ps:=qs) (j+1);obtain ⟨he1,hee⟩:=HVQ.out _ (mG hy);have hg:=(HS3.out.good _ (mG hy)).later hbr3;obtain ⟨b,o,rfl,hb,hc0⟩:=V4 (HS3.out.later hbr3).sl hy;simp only at hc0 hee he1;obtain ⟨bn,on,rfl,hbn,-⟩:=hg.sl hee;have HCE:=Ld (λj u hu=>Ye.flat hg.sl j u hu);have HL2:Hid (l+ey.length=(x0 :: Xl (qs.take (j+1))).length):=by
        show _=_;rw [HLL.out,HST.out];simp;omega
       have HT2:Hid ((x0 :: Xl (qs.take (j+1))).length<=(x0 :: Xl qs).length):=by
        show _<=_;simp only [List.length_cons];omega
       clear hg hy hee h2;by_cases h200:200 < l+ey.length
       . go_wp2_with (at_builtin;refine wpList_append_own _ rfl (.tmp 39) (.tmp 40) 22 rfl w3.heap.size 37 j0 _ 4 48 Tryz.underlying22 hj hy0 hy1 hy2 rfl (by omega) _ l (flat (x0 :: Xl (qs.take j))) rfl HOr.out ⟨bn,on,none⟩ ey.length cy (flat ey) rfl (Xw ey) HCE.out (Yp ey) (by unfold maxLen;omega) (by omega) (by omega) ?_;intro v1 w5 hown5 hgrow5 _;obtain ⟨A5,c5,hv5,-⟩:=Jw hown5;subst hv5)
         have hb5:RowKit.Below w3.heap.size w3 w5:=hbr3.grown hgrow5 hbr3.size (λq hq=>(HOr.out.lt q hq).1);clear hown5 hgrow5 hbn;go_ret2
         rw [HSV.out,if_pos (by have:=HL2.out;have:=HT2.out;rw [HX0.out] at *;omega)];exact X5.none (k:=4) (hw3.trans (hb5.mono hw3.size))
       . go_wp2_with (at_builtin;refine wpList_append_own _ rfl (.tmp 39) (.tmp 40) 22 rfl w3.heap.size 37 j0 _ 4 48 Tryz.underlying22 hj hy0 hy1 hy2 rfl (by omega) _ l (flat (x0 :: Xl (qs.take j))) rfl HOr.out ⟨bn,on,none⟩ ey.length cy (flat ey) rfl (Xw ey) HCE.out (Yp ey) (by unfold maxLen;omega) (by omega) (by omega) ?_;intro v1 w5 hown5 hgrow5 _;obtain ⟨A5,c5,hv5,-⟩:=Jw hown5;subst hv5)
         have hb5:RowKit.Below w3.heap.size w3 w5:=hbr3.grown hgrow5 hbr3.size (λq hq=>(HOr.out.lt q hq).1);have HO5:Hid (w5.ownsRow w3.heap.size 37 4 (.slice A5 (l+ey.length) c5) (l+ey.length) (flat (x0 :: Xl (qs.take (j+1))))):=by
          show World.ownsRow _ _ _ _ _ _ _;rw [HST.out,<-List.cons_append,U0];exact hown5
         clear hown5 hgrow5 hbn;exact ⟨⟨j+1,l+ey.length,by go_num,by omega,by omega,HL2,HO5,hb5⟩,by simp [intOf];omega⟩
     . have HT:Hid (qs.take j=qs):=(by show _=_;rw [List.take_of_length_le (by omega)]);rw [HT.out] at HOr HLL;obtain ⟨Ao,co,hv,hco,hcm4,hso,hnew⟩:=Kr HOr.out;subst hv;have HSO2:=Ld hso;have HNW:=Ld hnew;clear hso HOr hnew;go_wp2_with fail
       go_ret2
       rw [HSV.out,if_neg (by have:=HLL.out;omega)];have hll:=HLL.out;subst hll;exact ⟨Ao,co,rfl,hco,hcm4,HSO2.out,hw3.trans (hbr3.mono hw3.size),λb o h=>by have:=HNW.out b o h;omega⟩
def rsL {α:Type}(r:Rs (List α)):List α:=match r with | .ok v=>v | .bad _=>[]
def Zac (w:World)(r:Ending)(w':World)(q:Rs (List (List Nd))):Prop:=
 ∃(Ap:Option Addr) (cp:Nat) (ms:List NsM),r=.returned (.tuple #[.slice Ap ms.length cp,Yh (rsE q)])/\ms.map NsM.e=rsL q/\ms.length<=cp/\cp<=9223372036854775807/\X8 w' Ap ms/\RowKit.Below w.heap.size w w' /\
  (∀y∈ms,∀b o,y.A=some ⟨b,o,none⟩->y.e≠[]->w.heap.size<=b)/\(∀b o,Ap=some ⟨b,o,none⟩->w.heap.size<=b)
theorem Zac.bad {w w':World}{k:Int}(h:RowKit.Below w.heap.size w w'):Zac w (.returned (.tuple #[.slice none 0 0,Yh k])) w' (.bad k):=
 ⟨none,0,[],rfl,rfl,nL _,by omega,⟨SlG.nil _ _ _,by simp⟩,h,by simp,by simp⟩
theorem Zhv {v:List Nd}(h:Zb v=0)(ho:opH v=5\/opH v=6):∃(x:Nd) (ps:List (List Nd)),v=x :: ps.flatten/\v.length<=200/\x.n=ps.length/\(x.op=5->∀p∈ps,Vx p)/\(x.op=6->∀p∈ps,∃f u,p=f :: u/\Vx u)/\(x.op=5\/x.op=6)/\Z8 v=ps/\opH v=x.op:=by
 obtain ⟨hl,hv⟩:=(Z0 v).1 h;cases hv with
 | leaf n hs h5 h6 h7=>rcases ho with ho | ho;exact absurd ho h5;exact absurd ho h6
 | set n ps hs h5 hn hp hc=>
  exact ⟨n,ps,rfl,hl,hn,λ_=>hp,λh6=>by omega,.inl h5,Xr ps (λp hp'=>⟨false,Vf (hp p hp')⟩) _ (nL _),rfl⟩
 | rcd n ps hs h6 hn h1 h2 h3 hc=>
  refine ⟨n,ps,rfl,hl,hn,λh5=>by omega,λ_ p hp=>?_,.inr h6,Xr ps (λp hp=>?_) _ (nL _),rfl⟩
  . obtain ⟨f,u,rfl⟩:=h1 p hp;exact ⟨f,u,rfl,h3 f u hp⟩
  . obtain ⟨f,u,rfl⟩:=h1 p hp;exact ⟨true,Zbm (h2 f u hp).1 (h2 f u hp).2 (Vf (h3 f u hp))⟩
theorem Zrx {v:List Nd}{x:Nd}{ps:List (List Nd)}(h:Zb v=0)(hx:x.op=5\/x.op=6)(hp:Z8 v=ps)(ho:opH v=x.op):Kq v=.ok (ps.map (Zfb x)):=by
 unfold Kq;rw [if_neg (by simp [h]),ho,hp];rcases hx with h5 | h6
 . rw [if_pos h5];congr 1
   rw [show Zfb x=id from by funext p;unfold Zfb;rw [if_neg (by omega)];rfl,List.map_id]
 . rw [if_neg (by omega),if_pos h6];congr 2
   funext p;unfold Zfb;rw [if_pos h6]
theorem Zcj (v:List Nd)(A:Option Addr)(c:Nat)(w:World)(hc:v.length<=c)(hcm:c<=9223372036854775807)(hok:Y0 v)(hsl:Ye w w.heap.size A v) :
 Calls Tryz.prog 148 #[.slice A v.length c] w λr w'=>Zac w r w' (Kq v):=by
 have HV:=Ld (Ve v A c w hc hcm hok hsl);obtain ⟨q,hq⟩:∃q,Kq v=q:=⟨_,rfl⟩;rw [hq];have HQ:=Ld hq;clear hq;by_cases h0:Zb v=0
 . have t0:(Zb v != 0)=false:=by simp [h0]
   obtain ⟨y,r,hvy,-,-⟩:=((Z0 v).1 h0).2.ne;have hne:v≠[]:=by rw [hvy];simp
   obtain ⟨b,o,rfl,hb,hcs⟩:=hsl hne;have d0:=(hcs 0 y (by rw [hvy];rfl)).c0;rw [Nat.zero_mul,Nat.add_zero] at d0;have hl0:(0:Int) < (v.length:Int):=by rw [hvy];simp
   have hoy:opH v=y.op:=by rw [hvy];rfl
   by_cases ho:opH v=5\/opH v=6
   . obtain ⟨x,ps,hx,hl,hn,h5,h6,hxo,hpv,hox⟩:=Zhv h0 ho;have HR:Hid (q=.ok (ps.map (Zfb x))):=(by show _=_;rw [<-HQ.out];exact Zrx h0 hxo hpv hox);have HSP:=Ld (λW (hW:RowKit.Below w.heap.size w W)=>Zld x ps (some ⟨b,o,none⟩) c W (by rw [<-hx];exact hl) hn h5 h6 hxo (by rw [<-hx];exact hc) hcm (by rw [<-hx];exact hok) (by rw [<-hx];exact (hsl.below hW).more hW.size));rw [<-hx] at HSP;generalize (if x.op=6 then Zi ps else [])=NS at HSP;have hyo:(y.op != 5)=false\/((y.op != 5)=true/\(y.op != 6)=false):=by
      rw [hoy] at ho;rcases ho with h | h
      . left;simp [h]
      . right;simp [h]
     clear h0 hvy hne hcs hoy ho hx hl hn h5 h6 hxo hpv hox hok hsl hc;rcases hyo with t5 | ⟨t5,t6⟩
     all_goals (
      go_enter Tryz.func148,Tryz.ntmps148
      go_wp2_with fail
      refine HV.out.mono ?_;rintro r w1 ⟨rfl,hb1⟩;have e0:=(hb1.cell (p:=⟨b,o,none⟩) hb).trans d0;have HS1:=Ld (HSP.out w1 hb1);have HB1:=Ld hb1;clear hb1 d0;go_wp2_with fail
      refine HS1.out.mono ?_;rintro r w2 ⟨Ap,cp,An,cn,ms,rfl,h1,h2,h3,h4,-,h5,h6,h7⟩;have H1:=Ld h1;have H4:=Ld h4;have H6:=Ld h6;have H7:=Ld h7;have H2:=Ld h2;have hw2:=HB1.out.trans (h5.mono HB1.out.size);have hz1:=HB1.out.size;clear h1 h2 h4 h5 h6 h7;go_wp2_with fail
      go_ret2
      rw [HR.out];exact ⟨Ap,cp,ms,rfl,H1.out,H2.out,h3,H4.out,hw2,λy hy b o e1 e2=>by have:=H6.out y hy b o e1 e2;omega,λb o e1=>by have:=H7.out b o e1;omega⟩)
   . have HR:Hid (q=.bad 2):=by
      show _=_;rw [<-HQ.out];unfold Kq;rw [if_neg (by simp [h0]),if_neg (λh=>ho (.inl h)),if_neg (λh=>ho (.inr h))]
     rw [hoy] at ho;have t5:(y.op != 5)=true:=(by simp;exact λh=>ho (.inl h));have t6:(y.op != 6)=true:=(by simp;exact λh=>ho (.inr h));clear h0 hvy hne hcs hoy ho hok hsl hc;go_enter Tryz.func148,Tryz.ntmps148
     go_wp2_with fail
     refine HV.out.mono ?_;rintro r w1 ⟨rfl,hb1⟩;have e0:=(hb1.cell (p:=⟨b,o,none⟩) hb).trans d0;have HB1:=Ld hb1;clear hb1 d0;go_wp2_with fail
     go_ret2
     rw [HR.out];have hfin:=Zac.bad (k:=2) HB1.out;rw [Uh (by omega)] at hfin;exact hfin
 . have t0:(Zb v != 0)=true:=by simp [h0]
   have HR:Hid (q=.bad (Zb v)):=by show _=_;rw [<-HQ.out];unfold Kq;rw [if_pos h0]
   clear h0 hok hsl hc;go_enter Tryz.func148,Tryz.ntmps148
   go_wp2_with fail
   refine HV.out.mono ?_;rintro r w1 ⟨rfl,hb1⟩;have HB1:=Ld hb1;clear hb1;go_wp2_with fail
   go_ret2
   rw [HR.out];exact Zac.bad HB1.out
theorem Zt3 (p:List Nd):sH p=Xf p:=by cases p <;> rfl
theorem Zv5 (ps:List (List Nd))(s:ByteArray):(s.toList∈Zi ps->∃p,ps[(Zi ps).idxOf s.toList]? = some p/\ps.find? (λp=>decide (sH p=s))=some p)/\(s.toList ∉ Zi ps->ps.find? (λp=>decide (sH p=s))=none):=by
 induction ps with
 | nil=>exact ⟨λh=>by simp [Zi] at h,λ_=>rfl⟩
 | cons p ps ih=>
  have hc:Zi (p :: ps)=(Xf p).toList :: Zi ps:=rfl;by_cases he:sH p=s
  . have h1:(Xf p).toList=s.toList:=(by rw [<-Zt3,he]);refine ⟨λ_=>⟨p,by rw [hc,h1];simp,by simp [he]⟩,λh=>?_⟩;rw [hc,h1] at h;simp at h
  . have h1:¬(Xf p).toList=s.toList:=λh=>he (by rw [Zt3];exact (Zip _ _).1 h);refine ⟨λh=>?_,λh=>?_⟩
    . rw [hc] at h;rcases List.mem_cons.1 h with h | h
      . exact absurd h.symm h1
      . obtain ⟨q,e1,e2⟩:=ih.1 h;refine ⟨q,?_,by simp [he,e2]⟩;have h2:((Xf p).toList==s.toList)=false:=(by simpa using h1);rw [hc,List.idxOf_cons,h2];simpa using e1
    . rw [hc] at h;have h2:s.toList ∉ Zi ps:=λhh=>h (List.mem_cons_of_mem _ hh);simp [he,ih.2 h2]
theorem Zsu (v:List Nd)(s:ByteArray)(A:Option Addr)(c:Nat)(w:World)(hc:v.length<=c)(hcm:c<=9223372036854775807)(hok:Y0 v)(hsl:Ye w w.heap.size A v) :
 Calls Tryz.prog 117 #[.slice A v.length c,.string s] w λr w'=>X5 w r w' (rsL (Js v s)) (rsE (Js v s)):=by
 have HV:=Ld (Ve v A c w hc hcm hok hsl);obtain ⟨q,hq⟩:∃q,Js v s=q:=⟨_,rfl⟩;rw [hq];have HQ:=Ld hq;clear hq;by_cases h0:Zb v=0
 . have t0:(Zb v != 0)=false:=by simp [h0]
   obtain ⟨y,r,hvy,-,-⟩:=((Z0 v).1 h0).2.ne;have hne:v≠[]:=by rw [hvy];simp
   obtain ⟨b,o,rfl,hb,hcs⟩:=hsl hne;have d0:=(hcs 0 y (by rw [hvy];rfl)).c0;rw [Nat.zero_mul,Nat.add_zero] at d0;have hl0:(0:Int) < (v.length:Int):=by rw [hvy];simp
   have hoy:opH v=y.op:=by rw [hvy];rfl
   by_cases ho:opH v=6
   . obtain ⟨x,ps,hx,hl,hn,h5,h6,hxo,hpv,hox⟩:=Zhv h0 (.inr ho);have hx6:x.op=6:=(by rw [<-hox];exact ho);have HR:Hid (q=match ps.find? (λp=>decide (sH p=s)) with | some p=>.ok p.tail | none=>.bad 3):=by
      show _=_;rw [<-HQ.out];unfold Js;rw [if_neg (by simp [h0]),if_pos ho,hpv];rfl
     have HSP:=Ld (λW (hW:RowKit.Below w.heap.size w W)=>Zld x ps (some ⟨b,o,none⟩) c W (by rw [<-hx];exact hl) hn h5 h6 hxo (by rw [<-hx];exact hc) hcm (by rw [<-hx];exact hok) (by rw [<-hx];exact (hsl.below hW).more hW.size));rw [<-hx,if_pos hx6] at HSP;have HCX:Hid (Zfb x=List.tail):=(by show _=_;funext p;unfold Zfb;rw [if_pos hx6]);rw [HCX.out] at HSP;have hpl:ps.length<=200:=by
      have:ps.length<=ps.flatten.length:=by
       have h1:∀l:List (List Nd),(∀p∈l,p≠[])->l.length<=l.flatten.length:=by
        intro l;induction l with
        | nil=>simp
        | cons p r ih=>
         intro h;have a1:=ih (λq hq=>h q (by simp [hq]));have a2:=List.length_pos_iff.2 (h p (by simp));rw [List.flatten_cons,List.length_append,List.length_cons];omega
       exact h1 ps (λp hp=>by obtain ⟨f,u,e,_⟩:=h6 hx6 p hp;rw [e];simp)
      rw [hx,List.length_cons] at hl;omega
     have t6:(y.op != 6)=false:=(by rw [hoy] at ho;simp [ho]);have hnl:(Zi ps).length=ps.length:=(by simp [Zi]);have HNL:=Ld hnl;have HTN:Hid (∀p∈ps,p.tail≠[]):=λp hp=>by
      obtain ⟨f,u,e,hu⟩:=h6 hx6 p hp;obtain ⟨x',r',e',_⟩:=hu.ne;rw [e,e'];simp
     have HIX:=Ld (λAn cn W hS=>Zvx (Zi ps) An cn s W hS (by rw [hnl];omega));have HFN:=Ld (Zv5 ps s);clear h0 hvy hne hcs hoy ho hx hl hn h5 h6 hxo hpv hox hok hsl hc hx6 hnl;by_cases hm:s.toList∈Zi ps
     . obtain ⟨p,hp1,hp2⟩:=HFN.out.1 hm;have HR2:Hid (q=.ok p.tail):=(by show _=_;rw [HR.out,hp2]);have hid:Zxg (Zi ps) s.toList=(((Zi ps).idxOf s.toList:Nat):Int):=(by unfold Zxg;rw [if_pos hm]);rw [hid] at HIX;have HP1:=Ld hp1;have hk:(Zi ps).idxOf s.toList < ps.length:=(List.getElem?_eq_some_iff.1 hp1).1;generalize (Zi ps).idxOf s.toList=k at HIX HP1 hk;have tk:decide ((0:Int)<=(k:Int))=true:=(by simp);clear hm hp1 hp2 hid HFN HR;go_enter Tryz.func117,Tryz.ntmps117
       go_wp2_with fail
       refine HV.out.mono ?_;rintro r w1 ⟨rfl,hb1⟩;have e0:=(hb1.cell (p:=⟨b,o,none⟩) hb).trans d0;have HS1:=Ld (HSP.out w1 hb1);have HB1:=Ld hb1;clear hb1 d0;go_wp2_with fail
       refine HS1.out.mono ?_;rintro r w2 ⟨Ap,cp,An,cn,ms,rfl,h1,h2,h3,h4,hsn,h5,h6,h7⟩;have hml:ms.length=ps.length:=(by have:=congrArg List.length h1;simpa using this);have hkm:k < ms.length:=(by omega);obtain ⟨⟨Ay,cy,ey⟩,hy⟩:∃y,ms[k]? = some y:=⟨_,gE hkm⟩;have HEY:Hid (ey=p.tail):=by
        have h8:=congrArg (λl=>l[k]?) h1;simp only [List.getElem?_map,hy,HP1.out,Option.map_some] at h8;injection h8
       obtain ⟨bm,om,rfl,hbm,hcm2⟩:=V4 h4.sl hy;have HG:=Ld (h4.good _ (mG hy));have HFR:=Ld (λb o e1 e2=>h6 _ (mG hy) b o e1 e2);have hw2:=HB1.out.trans (h5.mono HB1.out.size);have hz1:=HB1.out.size;have HIX2:=Ld (HIX.out An cn w2 hsn);have HNN:Hid ((Zi ps).length=ps.length):=HNL;simp only at hcm2;clear h1 h2 h4 h5 h6 h7 hsn hy hml e0;go_wp2_with fail
       refine HIX2.out.mono ?_;rintro r w3 ⟨rfl,rfl⟩;go_wp2_with fail
       go_ret2
       rw [HR2.out];have e1:=HEY.out;subst e1;exact ⟨Ay,cy,rfl,HG.out.le,HG.out.max,HG.out.sl,hw2,λb o e1=>by have:=HFR.out b o e1 (HTN.out p (mG HP1.out));omega⟩
     . have hnf:=HFN.out.2 hm;have HR2:Hid (q=.bad 3):=(by show _=_;rw [HR.out,hnf]);have hid:Zxg (Zi ps) s.toList = -1:=(by unfold Zxg;rw [if_neg hm]);rw [hid] at HIX;clear hm hnf hid HFN HR;go_enter Tryz.func117,Tryz.ntmps117
       go_wp2_with fail
       refine HV.out.mono ?_;rintro r w1 ⟨rfl,hb1⟩;have e0:=(hb1.cell (p:=⟨b,o,none⟩) hb).trans d0;have HS1:=Ld (HSP.out w1 hb1);have HB1:=Ld hb1;clear hb1 d0;go_wp2_with fail
       refine HS1.out.mono ?_;rintro r w2 ⟨Ap,cp,An,cn,ms,rfl,-,-,h3,-,hsn,h5,-,-⟩;have hw2:=HB1.out.trans (h5.mono HB1.out.size);have HIX2:=Ld (HIX.out An cn w2 hsn);clear h5 hsn e0;go_wp2_with fail
       refine HIX2.out.mono ?_;rintro r w3 ⟨rfl,rfl⟩;go_wp2_with fail
       go_ret2
       rw [HR2.out];have hfin:=X5.none (k:=3) hw2;rw [Uh (by omega)] at hfin;exact hfin
   . have HR:Hid (q=.bad 2):=by
      show _=_;rw [<-HQ.out];unfold Js;rw [if_neg (by simp [h0]),if_neg ho]
     rw [hoy] at ho;have t6:(y.op != 6)=true:=(by simp [ho]);clear h0 hvy hne hcs hoy ho hok hsl hc;go_enter Tryz.func117,Tryz.ntmps117
     go_wp2_with fail
     refine HV.out.mono ?_;rintro r w1 ⟨rfl,hb1⟩;have e0:=(hb1.cell (p:=⟨b,o,none⟩) hb).trans d0;have HB1:=Ld hb1;clear hb1 d0;go_wp2_with fail
     go_ret2
     rw [HR.out];have hfin:=X5.none (k:=2) HB1.out;rw [Uh (by omega)] at hfin;exact hfin
 . have t0:(Zb v != 0)=true:=by simp [h0]
   have HR:Hid (q=.bad (Zb v)):=by show _=_;rw [<-HQ.out];unfold Js;rw [if_pos h0]
   clear h0 hok hsl hc;go_enter Tryz.func117,Tryz.ntmps117
   go_wp2_with fail
   refine HV.out.mono ?_;rintro r w1 ⟨rfl,hb1⟩;have HB1:=Ld hb1;clear hb1;go_wp2_with fail
   go_ret2
   rw [HR.out];exact X5.none HB1.out
theorem Ztg {xs ys:List Nd}{k:Nat}{x y:Nd}(hx:xs[k]? = some x)(hy:ys[k]? = some y)(h:xs.take k=ys.take k)(hh:x=y):xs.take (k+1)=ys.take (k+1):=by
 rw [List.take_add_one,List.take_add_one,hx,hy,h,hh]
theorem Zug {xs ys:List Nd}{k:Nat}{x y:Nd}(hx:xs[k]? = some x)(hy:ys[k]? = some y)(hh:x≠y):¬xs=ys:=by
 intro e;subst e;rw [hx] at hy;injection hy with hy;exact hh hy
theorem Zut (xs ys:List Nd)(A1 A2:Option Addr)(c1 c2:Nat)(w:World)(h1:Ye w w.heap.size A1 xs)(h2:Ye w w.heap.size A2 ys)(l1:xs.length<=9223372036854775807) :
 Calls Tryz.prog 177 #[.slice A1 xs.length c1,.slice A2 ys.length c2] w λr w'=>r=.returned (.bool (decide (xs=ys)))/\RowKit.Below w.heap.size w w':=by
 have H1:=Ld h1;have H2:=Ld h2;obtain ⟨v,hv⟩:∃v,decide (xs=ys)=v:=⟨_,rfl⟩;rw [hv];have HV:=Ld hv;clear hv h1 h2;by_cases hl:xs.length=ys.length
 . have tl:((xs.length:Int) != (ys.length:Int))=false:=by simp [hl]
   have hle:ys.length<=xs.length:=by omega
   have hle2:xs.length<=ys.length:=by omega
   have HL:=Ld hl;clear hl;go_enter Tryz.func177,Tryz.ntmps177
   go_wp2_with fail
   go_loopw [13] (λkk wr=>∃k:Nat,kk=.int .i64 k/\k<=xs.length/\Hid (xs.take k=ys.take k)/\RowKit.Below w.heap.size w wr) (λkk _=>xs.length - (intOf kk).toNat)
   case atStart=>exact ⟨0,rfl,by omega,by simp [Hid],RowKit.Below.refl _ _⟩
   case round=>
    obtain ⟨k,rfl,hk,HK,hbr⟩:=hrel;have hzr:=hbr.size;by_cases hlt:k < xs.length
    . obtain ⟨x,hx⟩:∃x,xs[k]? = some x:=⟨_,gE hlt⟩;obtain ⟨y,hy⟩:∃y,ys[k]? = some y:=⟨_,gE (by omega)⟩;obtain ⟨b1,o1,rfl,hb1,hc1⟩:=(H1.out.below hbr).at_ hlt;obtain ⟨b2,o2,rfl,hb2,hc2⟩:=(H2.out.below hbr).at_ (i:=k) (by omega);obtain ⟨d0,d1,d2,d3⟩:=hc1 k x hx;obtain ⟨e0,e1,e2,e3⟩:=hc2 k y hy;have HX:=Ld hx;have HY:=Ld hy;clear hc1 hc2 hx hy;have i1:(k:Int) < (xs.length:Int):=(by omega);have i2:(k:Int) < (ys.length:Int):=(by omega);have i0:0<=(k:Int):=(by omega);have heq:∀W,(binOp .neq 37 (.agg #[.int .i64 x.op,.int .i64 x.n,.string x.s,.string x.t]) (.agg #[.int .i64 y.op,.int .i64 y.n,.string y.s,.string y.t])).run Tryz.prog W=.ok (.bool (!decide (x=y))) W:=λW=>Zz7 x y W;have heq2:∀W,(Op.equalIn 10000 37 (.agg #[.int .i64 x.op,.int .i64 x.n,.string x.s,.string x.t]) (.agg #[.int .i64 y.op,.int .i64 y.n,.string y.s,.string y.t])).run Tryz.prog W=.ok (decide (x=y)) W:=λW=>Zsg x y W;by_cases hh:x=y
      . have hd:decide (x=y)=true:=(by simp [hh]);rw [hd] at heq heq2;have HK2:Hid (xs.take (k+1)=ys.take (k+1)):=Ztg HX.out HY.out HK.out hh;clear hh hd;go_wp2_with fail
        go_quiet (fail)
        go_wp2_with fail
        exact ⟨⟨k+1,by go_num,by omega,HK2,Za hbr _⟩,by simp [intOf];omega⟩
      . have hd:decide (x=y)=false:=(by simp [hh]);rw [hd] at heq heq2;have HVF:Hid (v=false):=(by show _=_;rw [<-HV.out];simpa using Zug HX.out HY.out hh);clear hh hd;go_wp2_with fail
        go_quiet (fail)
        go_wp2_with fail
        go_ret
        rw [HVF.out];exact ⟨rfl,Za hbr _⟩
    . have HVT:Hid (v=true):=by
       show _=_;rw [<-HV.out];have h:=HK.out;rw [List.take_of_length_le (by omega),List.take_of_length_le (by omega)] at h;simpa using h
      go_wp2_with fail
      go_ret
      rw [HVT.out];exact ⟨rfl,hbr⟩
 . have tl:((xs.length:Int) != (ys.length:Int))=true:=by simp;omega
   have HVF:Hid (v=false):=by show _=_;rw [<-HV.out];simp;intro e;exact hl (by rw [e])
   clear hl;go_enter Tryz.func177,Tryz.ntmps177
   go_wp2_with fail
   go_ret
   rw [HVF.out];exact ⟨rfl,RowKit.Below.refl _ _⟩
theorem Zu0 (xs ys:List Nd)(A1 A2:Option Addr)(c1 c2:Nat)(w:World)(h1:Ye w w.heap.size A1 xs)(h2:Ye w w.heap.size A2 ys)(l1:xs.length<=9223372036854775807) :
 Calls Tryz.prog 119 #[.slice A1 xs.length c1,.slice A2 ys.length c2] w λr w'=>r=.returned (.bool (decide (xs=ys)))/\RowKit.Below w.heap.size w w':=by
 have H1:=Ld h1;have H2:=Ld h2;obtain ⟨v,hv⟩:∃v,decide (xs=ys)=v:=⟨_,rfl⟩;rw [hv];have HV:=Ld hv;clear hv h1 h2;by_cases hl:xs.length=ys.length
 . have tl:((xs.length:Int) != (ys.length:Int))=false:=by simp [hl]
   have hle:ys.length<=xs.length:=by omega
   have hle2:xs.length<=ys.length:=by omega
   have HL:=Ld hl;clear hl;go_enter Tryz.func119,Tryz.ntmps119
   go_wp2_with fail
   go_loopw [13] (λkk wr=>∃k:Nat,kk=.int .i64 k/\k<=xs.length/\Hid (xs.take k=ys.take k)/\RowKit.Below w.heap.size w wr) (λkk _=>xs.length - (intOf kk).toNat)
   case atStart=>exact ⟨0,rfl,by omega,by simp [Hid],RowKit.Below.refl _ _⟩
   case round=>
    obtain ⟨k,rfl,hk,HK,hbr⟩:=hrel;have hzr:=hbr.size;by_cases hlt:k < xs.length
    . obtain ⟨x,hx⟩:∃x,xs[k]? = some x:=⟨_,gE hlt⟩;obtain ⟨y,hy⟩:∃y,ys[k]? = some y:=⟨_,gE (by omega)⟩;obtain ⟨b1,o1,rfl,hb1,hc1⟩:=(H1.out.below hbr).at_ hlt;obtain ⟨b2,o2,rfl,hb2,hc2⟩:=(H2.out.below hbr).at_ (i:=k) (by omega);obtain ⟨d0,d1,d2,d3⟩:=hc1 k x hx;obtain ⟨e0,e1,e2,e3⟩:=hc2 k y hy;have HX:=Ld hx;have HY:=Ld hy;clear hc1 hc2 hx hy;have i1:(k:Int) < (xs.length:Int):=(by omega);have i2:(k:Int) < (ys.length:Int):=(by omega);have i0:0<=(k:Int):=(by omega);have heq:∀W,(binOp .neq 37 (.agg #[.int .i64 x.op,.int .i64 x.n,.string x.s,.string x.t]) (.agg #[.int .i64 y.op,.int .i64 y.n,.string y.s,.string y.t])).run Tryz.prog W=.ok (.bool (!decide (x=y))) W:=λW=>Zz7 x y W;have heq2:∀W,(Op.equalIn 10000 37 (.agg #[.int .i64 x.op,.int .i64 x.n,.string x.s,.string x.t]) (.agg #[.int .i64 y.op,.int .i64 y.n,.string y.s,.string y.t])).run Tryz.prog W=.ok (decide (x=y)) W:=λW=>Zsg x y W;by_cases hh:x=y
      . have hd:decide (x=y)=true:=(by simp [hh]);rw [hd] at heq heq2;have HK2:Hid (xs.take (k+1)=ys.take (k+1)):=Ztg HX.out HY.out HK.out hh;clear hh hd;go_wp2_with fail
        go_quiet (fail)
        go_wp2_with fail
        exact ⟨⟨k+1,by go_num,by omega,HK2,Za hbr _⟩,by simp [intOf];omega⟩
      . have hd:decide (x=y)=false:=(by simp [hh]);rw [hd] at heq heq2;have HVF:Hid (v=false):=(by show _=_;rw [<-HV.out];simpa using Zug HX.out HY.out hh);clear hh hd;go_wp2_with fail
        go_quiet (fail)
        go_wp2_with fail
        go_ret
        rw [HVF.out];exact ⟨rfl,Za hbr _⟩
    . have HVT:Hid (v=true):=by
       show _=_;rw [<-HV.out];have h:=HK.out;rw [List.take_of_length_le (by omega),List.take_of_length_le (by omega)] at h;simpa using h
      go_wp2_with fail
      go_ret
      rw [HVT.out];exact ⟨rfl,hbr⟩
 . have tl:((xs.length:Int) != (ys.length:Int))=true:=by simp;omega
   have HVF:Hid (v=false):=by show _=_;rw [<-HV.out];simp;intro e;exact hl (by rw [e])
   clear hl;go_enter Tryz.func119,Tryz.ntmps119
   go_wp2_with fail
   go_ret
   rw [HVF.out];exact ⟨rfl,RowKit.Below.refl _ _⟩
structure Zz4 (v:List Nd)(A:Option Addr)(c:Nat)(b:Nat)(W:World):Prop where
 c0:W.cell? ⟨b,0,none⟩=some (.slice A v.length c)
 lt:b < W.heap.size
 sl:Ye W W.heap.size A v
theorem Zz4.later {v:List Nd}{A:Option Addr}{c b:Nat}{W W':World}(h:Zz4 v A c b W)(hb:RowKit.Below W.heap.size W W'):Zz4 v A c b W':=
 ⟨(hb.cell (p:=⟨b,0,none⟩) h.lt).trans h.c0,Nat.lt_of_lt_of_le h.lt hb.size,(h.sl.below hb).more hb.size⟩
theorem Z3b (v:List Nd)(A:Option Addr)(c b:Nat)(y:NsM)(w:World)(h:Zz4 v A c b w)(hy:Yq w w.heap.size y)(hl:y.e.length<=9223372036854775807) :
 Calls Tryz.prog 176 #[.slice y.A y.e.length y.c,.pointer (some ⟨b,0,none⟩)] w λr w'=>r=.returned (.bool (decide (y.e=v)))/\RowKit.Below w.heap.size w w':=by
 have H:=Ld (Zut y.e v y.A A y.c c w hy.sl h.sl hl);have c0:=h.c0;clear h hy;generalize decide (y.e=v)=q at H ⊢;go_enter Tryz.func176,Tryz.ntmps176
 go_wp2_with fail
 refine H.out.mono ?_;rintro r w1 ⟨rfl,hb1⟩;have HB:=Ld hb1;clear hb1 c0;go_wp2_with fail
 go_ret
 exact ⟨rfl,HB.out⟩
theorem Zsh {ps:List NsM}{f:List Nd->Bool}{k:Nat}{x:NsM}(hx:ps[k]? = some x)(h:(ps.take k).any (λy=>f y.e)=false)(hh:f x.e=false):(ps.take (k+1)).any (λy=>f y.e)=false:=by
 rw [List.take_add_one,hx,List.any_append,h];simp [hh]
theorem Zdu {ps:List NsM}{f:List Nd->Bool}{k:Nat}{x:NsM}(hx:ps[k]? = some x)(hh:f x.e=true):ps.any (λy=>f y.e)=true:=List.any_eq_true.2 ⟨x,mG hx,hh⟩
theorem Zp4 (v:List Nd)(A:Option Addr)(c b:Nat)(w0:World)(hcl:Zz4 v A c b w0)(ps:List NsM)(Ap:Option Addr)(cp:Nat)(w:World)(hw0:RowKit.Below w0.heap.size w0 w)(hl:ps.length<=9223372036854775807)(hs:X8 w Ap ps) :
 Calls Tryz.prog 178 #[.slice Ap ps.length cp,.func (.func 176) #[] #[.pointer (some ⟨b,0,none⟩)]] w λr w'=>(∃k:Int,r=.returned (.int .i64 k)/\decide (0<=k)=ps.any (λy=>decide (y.e=v)))/\RowKit.Below w.heap.size w w':=by
 have HM:=Ld hcl;have HW0:=Ld hw0;have HS:=Ld hs;clear hcl hs hw0;go_enter Tryz.func178,Tryz.ntmps178
 go_wp2_with fail
 go_loopw [8] (λkk wr=>∃k:Nat,kk=.int .i64 k/\k<=ps.length/\Hid ((ps.take k).any (λy=>decide (y.e=v))=false)/\RowKit.Below w.heap.size w wr) (λkk _=>ps.length - (intOf kk).toNat)
 case atStart=>exact ⟨0,rfl,by omega,by simp [Hid],RowKit.Below.refl _ _⟩
 case round=>
  obtain ⟨k,rfl,hk,HK,hbr⟩:=hrel;have hzr:=hbr.size;by_cases hlt:k < ps.length
  . obtain ⟨x,hx⟩:∃x,ps[k]? = some x:=⟨_,gE hlt⟩;obtain ⟨b1,o1,rfl,hb1,d0⟩:=V4 (HS.out.later hbr).sl hx;have HX:=Ld hx;have HC:=Ld (Z3b v A c b x wr (HM.out.later (HW0.out.trans (hbr.mono HW0.out.size))) ((HS.out.later hbr).good x (mG hx)) (by have:=((HS.out.later hbr).good x (mG hx));have h1:=this.le;have h2:=this.max;omega));clear hx;cases hh:decide (x.e=v) with
    | true=>
     have HH:=Ld hh;rw [hh] at HC;clear hh;go_wp2_with fail
     refine HC.out.mono ?_;rintro r w1 ⟨rfl,hb2⟩;have hw1:=hbr.trans (hb2.mono hbr.size);clear hb2 d0;go_wp2_with fail
     go_ret
     refine ⟨⟨k,rfl,?_⟩,hw1⟩;rw [Zdu (f:=λe=>decide (e=v)) HX.out HH.out];simp
    | false=>
     have HH:=Ld hh;rw [hh] at HC;clear hh;go_wp2_with fail
     refine HC.out.mono ?_;rintro r w1 ⟨rfl,hb2⟩;have hw1:=hbr.trans (hb2.mono hbr.size);clear hb2 d0;go_wp2_with fail
     exact ⟨⟨k+1,by go_num,by omega,Zsh (f:=λe=>decide (e=v)) HX.out HK.out HH.out,hw1⟩,by simp [intOf];omega⟩
  . have HE:Hid (ps.any (λy=>decide (y.e=v))=false):=by
     have:=HK.out;rw [List.take_of_length_le (by omega)] at this;exact this
    go_wp2_with fail
    go_ret
    exact ⟨⟨-1,rfl,by rw [HE.out];rfl⟩,hbr⟩
theorem Zkc (v:List Nd)(A:Option Addr)(c b:Nat)(w0:World)(hcl:Zz4 v A c b w0)(ps:List NsM)(Ap:Option Addr)(cp:Nat)(w:World)(hw0:RowKit.Below w0.heap.size w0 w)(hl:ps.length<=9223372036854775807)(hs:X8 w Ap ps) :
 Calls Tryz.prog 154 #[.slice Ap ps.length cp,.func (.func 176) #[] #[.pointer (some ⟨b,0,none⟩)]] w λr w'=>r=.returned (.bool (ps.any (λy=>decide (y.e=v))))/\RowKit.Below w.heap.size w w':=by
 have HI:=Ld (Zp4 v A c b w0 hcl ps Ap cp w hw0 hl hs);clear hcl hs hw0;generalize ps.any (λy=>decide (y.e=v))=q at HI ⊢;go_enter Tryz.func154,Tryz.ntmps154
 go_wp2_with fail
 refine HI.out.mono ?_;rintro r w1 ⟨⟨k,rfl,hk⟩,hb1⟩;have HK:=Ld hk;clear hk;go_wp2_with fail
 go_ret
 exact ⟨Vj HK.out,hb1⟩
theorem Zmw (v:List Nd)(A:Option Addr)(c:Nat)(ps:List NsM)(Ap:Option Addr)(cp:Nat)(w:World)(hl:ps.length<=9223372036854775807)(hs:X8 w Ap ps)(hv:Ye w w.heap.size A v) :
 Calls Tryz.prog 151 #[.slice Ap ps.length cp,.slice A v.length c] w λr w'=>r=.returned (.bool (ps.any (λy=>decide (y.e=v))))/\RowKit.Below w.heap.size w w':=by
 have hb0:RowKit.Below w.heap.size w (w.alloc (.cells #[.slice A v.length c] 22)):=by (repeat (first | assumption | exact bR | apply bD | apply Za | refine bA ?_ _))
 have HC:=Ld (Zkc v A c w.heap.size (w.alloc (.cells #[.slice A v.length c] 22)) ⟨by simp [World.cell?_alloc_new],by simp,(hv.below hb0).more hb0.size⟩ ps Ap cp (w.alloc (.cells #[.slice A v.length c] 22)) (RowKit.Below.refl _ _) hl (hs.later hb0));clear hs hv;generalize (ps.any (λy=>decide (y.e=v)))=q at HC ⊢;go_enter Tryz.func151,Tryz.ntmps151
 go_wp2_with fail
 refine HC.out.mono ?_;rintro r w1 ⟨rfl,hb1⟩;have hw1:=hb0.trans (hb1.mono hb0.size);clear hb1;go_wp2_with fail
 go_ret
 exact ⟨rfl,hw1⟩
theorem Zqu (qs:List NsM)(Aq:Option Addr)(cq:Nat)(w0:World)(hcl:X8 w0 Aq qs)(hql:qs.length<=9223372036854775807)(ps:List NsM)(Ap:Option Addr)(cp:Nat)(w:World)(hw0:RowKit.Below w0.heap.size w0 w)(hl:ps.length<=9223372036854775807)(hs:X8 w Ap ps) :
 Calls Tryz.prog 178 #[.slice Ap ps.length cp,.func (.func 151) #[.slice Aq qs.length cq] #[]] w λr w'=>(∃k:Int,r=.returned (.int .i64 k)/\decide (0<=k)=ps.any (λy=>qs.any (λq=>decide (q.e=y.e))))/\RowKit.Below w.heap.size w w':=by
 have HM:=Ld hcl;have HW0:=Ld hw0;have HS:=Ld hs;clear hcl hs hw0;go_enter Tryz.func178,Tryz.ntmps178
 go_wp2_with fail
 go_loopw [8] (λkk wr=>∃k:Nat,kk=.int .i64 k/\k<=ps.length/\Hid ((ps.take k).any (λy=>qs.any (λq=>decide (q.e=y.e)))=false)/\RowKit.Below w.heap.size w wr) (λkk _=>ps.length - (intOf kk).toNat)
 case atStart=>exact ⟨0,rfl,by omega,by simp [Hid],RowKit.Below.refl _ _⟩
 case round=>
  obtain ⟨k,rfl,hk,HK,hbr⟩:=hrel;have hzr:=hbr.size;by_cases hlt:k < ps.length
  . obtain ⟨x,hx⟩:∃x,ps[k]? = some x:=⟨_,gE hlt⟩;obtain ⟨b1,o1,rfl,hb1,d0⟩:=V4 (HS.out.later hbr).sl hx;have HX:=Ld hx;have HC:=Ld (Zmw x.e x.A x.c qs Aq cq wr hql (HM.out.later (HW0.out.trans (hbr.mono HW0.out.size))) ((HS.out.later hbr).good x (mG hx)).sl);clear hx;cases hh:qs.any (λq=>decide (q.e=x.e)) with
    | true=>
     have HH:=Ld hh;rw [hh] at HC;clear hh;go_wp2_with fail
     refine HC.out.mono ?_;rintro r w1 ⟨rfl,hb2⟩;have hw1:=hbr.trans (hb2.mono hbr.size);clear hb2 d0;go_wp2_with fail
     go_ret
     refine ⟨⟨k,rfl,?_⟩,hw1⟩;rw [Zdu (f:=λe=>qs.any (λq=>decide (q.e=e))) HX.out HH.out];simp
    | false=>
     have HH:=Ld hh;rw [hh] at HC;clear hh;go_wp2_with fail
     refine HC.out.mono ?_;rintro r w1 ⟨rfl,hb2⟩;have hw1:=hbr.trans (hb2.mono hbr.size);clear hb2 d0;go_wp2_with fail
     exact ⟨⟨k+1,by go_num,by omega,Zsh (f:=λe=>qs.any (λq=>decide (q.e=e))) HX.out HK.out HH.out,hw1⟩,by simp [intOf];omega⟩
  . have HE:Hid (ps.any (λy=>qs.any (λq=>decide (q.e=y.e)))=false):=by
     have:=HK.out;rw [List.take_of_length_le (by omega)] at this;exact this
    go_wp2_with fail
    go_ret
    exact ⟨⟨-1,rfl,by rw [HE.out];rfl⟩,hbr⟩
theorem Zj9 (qs:List NsM)(Aq:Option Addr)(cq:Nat)(w0:World)(hcl:X8 w0 Aq qs)(hql:qs.length<=9223372036854775807)(ps:List NsM)(Ap:Option Addr)(cp:Nat)(w:World)(hw0:RowKit.Below w0.heap.size w0 w)(hl:ps.length<=9223372036854775807)(hs:X8 w Ap ps) :
 Calls Tryz.prog 154 #[.slice Ap ps.length cp,.func (.func 151) #[.slice Aq qs.length cq] #[]] w λr w'=>r=.returned (.bool (ps.any (λy=>qs.any (λq=>decide (q.e=y.e)))))/\RowKit.Below w.heap.size w w':=by
 have HI:=Ld (Zqu qs Aq cq w0 hcl hql ps Ap cp w hw0 hl hs);clear hcl hs hw0;generalize ps.any (λy=>qs.any (λq=>decide (q.e=y.e)))=q at HI ⊢;go_enter Tryz.func154,Tryz.ntmps154
 go_wp2_with fail
 refine HI.out.mono ?_;rintro r w1 ⟨⟨k,rfl,hk⟩,hb1⟩;have HK:=Ld hk;clear hk;go_wp2_with fail
 go_ret
 exact ⟨Vj HK.out,hb1⟩
end Go.Proofs.YtpheiojmcafolaaGreatDoor
