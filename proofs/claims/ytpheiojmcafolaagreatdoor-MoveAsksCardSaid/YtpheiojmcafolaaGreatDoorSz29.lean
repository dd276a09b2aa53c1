/-
 A REGION THAT DRAWS ITS ORDER, walked in an order of one's own, where a second condition S1 on the world holds only till one operation has come up: a cell is read, and stored at the region's end.
-/
import Derived.Test.YtpheiojmcafolaaGreatDoorSz28
set_option maxRecDepth 100000
set_option maxHeartbeats 25600000
namespace Go.Proofs.YtpheiojmcafolaaGreatDoor
section
variable {P : Program} {ops : Array Oper} {Q : Exit -> Act -> World -> Prop} {S S1 : World -> Prop} {c : Nat}
def Zm4 (S S1:World->Prop)(c:Nat)(l:Array Bool)(w:World):Prop:=S w/\(l.getD c true=false->S1 w)
def Zed (P:Program)(ops:Array Oper)(Q:Exit->Act->World->Prop)(S S1:World->Prop)(c:Nat):Nat->Array Bool->Act->World->Prop
 | 0,l,a,w=>Region.ready .any ops l = []/\Q .normal a w
 | n+1,l,a,w=>(Region.ready .any ops l = []->Q .normal a w)/\∀i∈Region.ready .any ops l,wpOp P ops Q i (λa' w'=>Zm4 S S1 c (l.setIfInBounds i true) w'/\Zed P ops Q S S1 c n (l.setIfInBounds i true) a' w') a w
theorem Zc3:∀(n:Nat) (l:Array Bool) (a:Act) (w:World),Zed P ops Q S S1 c n l a w->wpAny P .any ops Q n l a w
 | 0,_,_,_,h=>h
 | n+1,_,_,_,h=>⟨h.1,λi hi=>wpOp_mono (λa' w' h'=>Zc3 n _ a' w' h'.2) (h.2 i hi)⟩
theorem Zps {l:Array Bool}{i k:Nat}(h:(l.setIfInBounds i true).getD k true=false):l.getD k true=false:=by
 by_cases e:i=k
 . subst e;rcases Nat.lt_or_ge i l.size with h' | h'
   . simp [h'] at h
   . simp at h
 . rwa [getD_set_ne true e] at h
theorem Zm4.set {l:Array Bool}{w:World}(h:Zm4 S S1 c l w)(i:Nat):Zm4 S S1 c (l.setIfInBounds i true) w:=⟨h.1,λe=>h.2 (Zps e)⟩
theorem Zd6 {R:World->Prop}{I:Array Bool->Prop}{i:Nat}{oi:Oper}{v:Value}(hi:ops[i]? = some oi)(hsel:∀(j:Nat) (o:Oper) cs b,ops[j]? = some o->o.op≠.select cs b)
 (hQ:∀c a w,Q (.panic c) (a.put oi.dst v) w->Q (.panic c) a w) (hci:c≠i)
 (hI:∀l w,I l->Zm4 S S1 c l w->R w) (hJ:∀l j,I l->l.getD i true=false->j∈Region.ready .any ops l->I (l.setIfInBounds j true)) :
 ∀(n:Nat) (l:Array Bool) (a:Act) (w:World),
  (∀j oj,ops[j]? = some oj->j≠i->l.getD j true=false->(∀e∈oj.after,Region.binds .any e=true->e.on≠i)->oi.apart ops oj=true) ->
  I l->i∈Region.ready .any ops l->YieldsIf P ops R oi v a->Zm4 S S1 c l w ->
  Zed P ops Q S S1 c n (l.setIfInBounds i true) (a.put oi.dst v) w->Zed P ops Q S S1 c (n+1) l a w:=by
 intro n;induction n with
 | zero=>
  intro l a w _ hl hr hy hS H;refine ⟨λh=>(by rw [h] at hr;cases hr),λj hj=>?_⟩;by_cases hji:j=i
  . subst hji;exact hy.wpOp hi (hI _ _ hl hS) ⟨hS.set j,H⟩
  . have:=ready_mono hj hji;rw [H.1] at this;cases this
 | succ n ih=>
  intro l a w hfree hl hr hy hS H;refine ⟨λh=>(by rw [h] at hr;cases hr),λj hj=>?_⟩;by_cases hji:j=i
  . subst hji;exact hy.wpOp hi (hI _ _ hl hS) ⟨hS.set j,H⟩
  . have h1:=H.2 j (ready_mono hj hji);obtain ⟨hjun,oj,hoj,hall⟩:=mem_ready.1 hj;have h0:=(mem_ready.1 hr).1;have hnot:∀e∈oj.after,Region.binds .any e=true->e.on≠i:=λe he hb heq=>by
     have h1:=hall e he hb;rw [heq] at h1;rcases Nat.lt_or_ge i l.size with h' | h'
     . simp [h'] at h0 h1;rw [h0] at h1;cases h1
     . simp [Array.getElem?_eq_none h'] at h1
    have h2:=wpOp_putIf hoj (hfree j oj hoj hji hjun hnot) (λcs b=>hsel i oi cs b hi) (λcs b=>hsel j oj cs b hoj) hQ hy h1;have hfree':∀k ok,ops[k]? = some ok->k≠i->(l.setIfInBounds j true).getD k true=false ->
     (∀e∈ok.after,Region.binds .any e=true->e.on≠i)->oi.apart ops ok=true:=λk ok hk hki hun hno=>hfree k ok hk hki (Zps hun) hno
    refine wpOp_mono (λa' w' h3=>?_) h2;have ht:Zm4 S S1 c (l.setIfInBounds j true) w':=⟨h3.2.1.1,λe=>h3.2.1.2 (by rwa [Array.setIfInBounds_comm _ _ (Ne.symm hji),getD_set_ne true (Ne.symm hci)])⟩;refine ⟨ht,ih (l.setIfInBounds j true) a' w' hfree' (hJ l j hl h0 hj) (ready_mono hr (Ne.symm hji)) h3.1 ht ?_⟩;rw [Array.setIfInBounds_comm _ _ hji];exact h3.2.2
def Zfe (P:Program)(ops:Array Oper)(Q:Exit->Act->World->Prop)(S S1:World->Prop):List (Oper × Nat)->Act->World->Prop
 | [],a,w=>Q .normal a w
 | (o,0) :: rest,a,w=>∃v,YieldsIf P ops S o v a/\Zfe P ops Q S S1 rest (a.put o.dst v) w
 | (o,2) :: rest,a,w=>∃v,YieldsIf P ops (λw=>S w/\S1 w) o v a/\Zfe P ops Q S S1 rest (a.put o.dst v) w
 | (o,1) :: rest,a,w=>∀K:Act->World->Prop,(∀a w,S w->S1 w->Zfe P ops Q S S1 rest a w->K a w)->if Region.wanted o (yielded ops a.tmps)=true then Oper.wp P o a w K Q else K (a.put o.dst undef) w
 | (o,_+3) :: rest,a,w=>∀K:Act->World->Prop,(∀a w,S w->Zfe P ops Q S S1 rest a w->K a w)->if Region.wanted o (yielded ops a.tmps)=true then Oper.wp P o a w K Q else K (a.put o.dst undef) w
def Z0v (ops:Array Oper)(c i:Nat):Bool:=match ops[c]? with
 | some o=>o.after.any λe=>Region.binds .any e && e.on==i
 | none=>false
def Qw (ops:Array Oper)(c:Nat):List (Nat × Nat)->Array Bool->Bool
 | [],d=>(Region.ready .any ops d).isEmpty
 | (i,0) :: r,d=>c != i && (Region.free .any ops d i && (Region.ready .any ops d).contains i) && Qw ops c r (d.setIfInBounds i true)
 | (i,2) :: r,d=>c != i && (Z0v ops c i && !(d.getD c true)) && (Region.free .any ops d i && (Region.ready .any ops d).contains i) && Qw ops c r (d.setIfInBounds i true)
 | (i,1) :: r,d=>(Region.ready .any ops d == [i]) && Qw ops c r (d.setIfInBounds i true)
 | (i,_+3) :: r,d=>(Region.ready .any ops d == [i]) && (d.setIfInBounds i true).getD c true && Qw ops c r (d.setIfInBounds i true)
def Q4 (l:List Oper)(L:List (Nat × Nat)):List (Oper × Nat):=L.filterMap λp=>(l[p.1]?).map λo=>(o,p.2)
theorem Zvw {i j:Nat}{l:Array Bool}(h:Z0v ops c i=true)(hi:l.getD i true=false)(hj:j∈Region.ready .any ops l):j≠c:=by
 rintro rfl;obtain ⟨_,oj,hoj,hall⟩:=mem_ready.1 hj;unfold Z0v at h;rw [hoj] at h;dsimp only at h;obtain ⟨k,hk,he⟩:=Array.any_eq_true.1 h;rw [Bool.and_eq_true,beq_iff_eq] at he;have h1:=hall _ (Array.getElem_mem hk) he.1;rw [he.2] at h1;rcases Nat.lt_or_ge i l.size with h' | h'
 . simp [h'] at hi h1;rw [hi] at h1;cases h1
 . simp [Array.getElem?_eq_none h'] at h1
theorem Kb {l:List Oper}(hsel:Region.noSelect l.toArray=true)(hQ:∀c (d:Tmp) v a w,Q (.panic c) (Act.put a (some d) v) w->Q (.panic c) a w) :
 ∀(L:List (Nat × Nat)) (d:Array Bool) (a:Act) (w:World),(∀p∈L,p.1 < l.length)->Qw l.toArray c L d=true->Zm4 S S1 c d w->Zfe P l.toArray Q S S1 (Q4 l L) a w->Zed P l.toArray Q S S1 c L.length d a w
 | [],d,a,w,_,hok,_,h=>⟨by simpa [Qw] using hok,h⟩
 | (i,fl) :: r,d,a,w,hL,hok,hS,h=>by
  have hil:i < l.length:=hL (i,fl) (by simp);have hi:l.toArray[i]? = some l[i]:=by simp [hil]
  have hL':∀p∈r,p.1 < l.length:=λp hp=>hL p (by simp [hp]);have hc:Q4 l ((i,fl) :: r)=(l[i],fl) :: Q4 l r:=by simp [Q4,hil]
  have hQi:∀v,∀c a w,Q (.panic c) (Act.put a l[i].dst v) w->Q (.panic c) a w:=λv c a w q=>by
   cases hd:l[i].dst with
   | none=>rw [hd] at q;exact q
   | some d=>rw [hd] at q;exact hQ c _ _ a w q
  have alone:Region.ready .any l.toArray d = [i]->∀X:Act->World->Prop,(∀a w,X a w->Zm4 S S1 c (d.setIfInBounds i true) w/\Zed P l.toArray Q S S1 c r.length (d.setIfInBounds i true) a w) ->
   (∀K:Act->World->Prop,(∀a w,X a w->K a w)->if Region.wanted l[i] (yielded l.toArray a.tmps)=true then Oper.wp P l[i] a w K Q else K (a.put l[i].dst undef) w)->Zed P l.toArray Q S S1 c (r.length+1) d a w:=λhr X hX hx=>by
   refine ⟨λh0=>(by rw [hr] at h0;cases h0),λj hj=>?_⟩;rw [hr] at hj;rw [List.mem_singleton] at hj;subst hj;exact wpOp_step hi (λK' hK=>hx K' (λa w h=>hK a w (hX a w h)))
  rw [hc] at h;match fl,hok,h with
  | 0,hok,h=>
   simp only [Qw,Bool.and_eq_true,bne_iff_ne] at hok;obtain ⟨v,hy,hr⟩:=h;exact Zd6 (R:=S) (I:=λ_=>True) hi (Region.noSelect_spec hsel) (hQi v) hok.1.1 (λ_ _ _ h=>h.1) (λ_ _ _ _ _=>trivial) _ _ _ _ (Region.free_spec hi hok.1.2.1) trivial (by simpa using hok.1.2.2) hy hS (Kb hsel hQ r _ _ w hL' hok.2 (hS.set i) hr)
  | 2,hok,h=>
   simp only [Qw,Bool.and_eq_true,bne_iff_ne] at hok;obtain ⟨⟨⟨h1,h2,h3⟩,h4,h5⟩,h6⟩:=hok;obtain ⟨v,hy,hr⟩:=h;refine Zd6 (R:=λw=>S w/\S1 w) (I:=λl=>l.getD c true=false) hi (Region.noSelect_spec hsel) (hQi v) h1 (λ_ _ hl h=>⟨h.1,h.2 hl⟩) (λl' j hl hu hj=>?_) _ _ _ _ (Region.free_spec hi h4) (by simpa using h3) (by simpa using h5) hy hS (Kb hsel hQ r _ _ w hL' h6 (hS.set i) hr);rw [getD_set_ne true (Zvw h2 hu hj)];exact hl
  | 1,hok,h=>
   simp only [Qw,Bool.and_eq_true,beq_iff_eq] at hok;refine alone hok.1 (λa w=>S w/\S1 w/\Zfe P l.toArray Q S S1 (Q4 l r) a w) (λa w hx=>?_) (λK hK=>h K λa w x1 x2 x3=>hK a w ⟨x1,x2,x3⟩);have ht:Zm4 S S1 c (d.setIfInBounds i true) w:=⟨hx.1,λ_=>hx.2.1⟩;exact ⟨ht,Kb hsel hQ r _ a w hL' hok.2 ht hx.2.2⟩
  | n+3,hok,h=>
   simp only [Qw,Bool.and_eq_true,beq_iff_eq] at hok;refine alone hok.1.1 (λa w=>S w/\Zfe P l.toArray Q S S1 (Q4 l r) a w) (λa w hx=>?_) (λK hK=>h K λa w x1 x3=>hK a w ⟨x1,x3⟩);have ht:Zm4 S S1 c (d.setIfInBounds i true) w:=⟨hx.1,λe=>by rw [hok.1.2] at e;cases e⟩;exact ⟨ht,Kb hsel hQ r _ a w hL' hok.2 ht hx.2⟩
def Ztj (ops:Array Oper)(c:Nat)(L:List (Nat × Nat)):Bool:=Region.noSelect ops && L.all (λp=>decide (p.1 < ops.size)) && (L.length==ops.size) && Qw ops c L (Array.replicate ops.size false)
theorem Zhg {l:List Oper}(c:Nat)(L:List (Nat × Nat)){id:Nat}{a:Act}{w:World}(hm:P.follows .mixedOrders=true)(hok:Ztj l.toArray c L=true)
 (hQ:∀c (d:Tmp) v a w,Q (.panic c) (Act.put a (some d) v) w->Q (.panic c) a w) (hS:S w.drew) (hS1:S1 w.drew) (h:Zfe P l.toArray Q S S1 (Q4 l L) a w.drew):(Code.region id l.toArray true).wp P Q a w:=by
 unfold Ztj at hok;simp only [Bool.and_eq_true,beq_iff_eq,List.all_eq_true,decide_eq_true_eq] at hok;obtain ⟨⟨⟨h1,h2⟩,h3⟩,h4⟩:=hok;have h5:=Kb (P:=P) (S:=S) (S1:=S1) (c:=c) h1 hQ L (Array.replicate l.toArray.size false) a w.drew (λp hp=>by have:=h2 p hp;simpa using this) h4 ⟨hS,λ_=>hS1⟩ h;rw [h3] at h5;exact wp_region_any hm (Zc3 _ _ _ _ h5)
theorem Z46 {a:Act}{w:World}(h:Q .normal a w):Zfe P ops Q S S1 [] a w:=h
theorem Zt6 {o:Oper}{v:Value}{rest:List (Oper × Nat)}{a:Act}{w:World}(hw:Region.wanted o (yielded ops a.tmps)=true)
 (hy:∀w,S w->(execOp a.eval o).run P w=.ok (.value v) w) (h:Zfe P ops Q S S1 rest (a.put o.dst v) w):Zfe P ops Q S S1 ((o,0) :: rest) a w:=
 ⟨v,.inl ⟨hw,hy⟩,h⟩
theorem Zpg {o:Oper}{v:Value}{rest:List (Oper × Nat)}{a:Act}{w:World}(hw:Region.wanted o (yielded ops a.tmps)=true)
 (hy:∀w,S w/\S1 w->(execOp a.eval o).run P w=.ok (.value v) w) (h:Zfe P ops Q S S1 rest (a.put o.dst v) w):Zfe P ops Q S S1 ((o,2) :: rest) a w:=
 ⟨v,.inl ⟨hw,hy⟩,h⟩
theorem Zs9 {o:Oper}{rest:List (Oper × Nat)}{a:Act}{w:World}
 (h:∀K:Act->World->Prop,(∀a w,S w->S1 w->Zfe P ops Q S S1 rest a w->K a w)->if Region.wanted o (yielded ops a.tmps)=true then Oper.wp P o a w K Q else K (a.put o.dst undef) w) :
 Zfe P ops Q S S1 ((o,1) :: rest) a w:=h
theorem Zs0 {o:Oper}{rest:List (Oper × Nat)}{a:Act}{w:World}
 (h:∀K:Act->World->Prop,(∀a w,S w->Zfe P ops Q S S1 rest a w->K a w)->if Region.wanted o (yielded ops a.tmps)=true then Oper.wp P o a w K Q else K (a.put o.dst undef) w) :
 Zfe P ops Q S S1 ((o,3) :: rest) a w:=h
end
theorem Zl4 {P:Program}{w:World}{ops:Array Oper}{o:Oper}{a:Act}{K:Act->World->Prop}{Q:Exit->Act->World->Prop}{E:Prop}(hgd:o.guard=none)(s x:Operand)(t:TypeId)
 (ho:o.op=.call { callee:=.builtin .append,args:=#[s,x],argTypes:=#[t,t] }) (v xv:Value) (hs:a.eval s=v) (hx:a.eval x=xv) (R:Value->World->Prop)
 (hr:∃v' w',(Builtin.append_ #[t,t] o.type #[v,xv]).run P w=.ok v' w'/\R v' w') (h:∀v' w',R v' w'->K (a.put o.dst v') w') :
 if Region.wanted o (yielded ops a.tmps)=true then Oper.wp P o a w K Q else E:=by
 obtain ⟨v',w',hr,h2⟩:=hr;rw [if_pos (by simp [Region.wanted,hgd])];unfold Oper.wp execOp;simp only [ho,resolve,invoke,builtin,Sem.run_bind,Sem.run_pure,Result.andThen_ok,List.map_toArray,List.map_cons,List.map_nil,hs,hx,hr];exact h v' w' h2
end Go.Proofs.YtpheiojmcafolaaGreatDoor
namespace Go.Proofs.YtpheiojmcafolaaGreatDoor
open Go.RowKit Go.Sort
theorem SlG.grown {α:Type}{enc:α->List Value}{k:Nat}{w w':World}{q:Option Nat}{A:Option Addr}{xs:List α}(h:SlG enc k w w.heap.size A xs)(hn:∀b o,A=some ⟨b,o,none⟩->q≠some b)(hg:w.grownBy w' q):SlG enc k w' w'.heap.size A xs:=λhne=>by
 obtain ⟨b,o,e,h1,h2⟩:=h hne;refine ⟨b,o,e,Nat.lt_of_lt_of_le h1 hg.size,λi x hx j u hu=>?_⟩;exact (World.cell?_of_block (w:=w) (w':=w') (a:=⟨b,o+i*k+j,none⟩) (hg.block b h1 (λe'=>hn b o e e'.symm))).trans (h2 i x hx j u hu)
theorem Zho {w w':World}{q:Option Nat}{A:Option Addr}{xs:List Nd}(h:Ye w w.heap.size A xs)(hn:∀b o,A=some ⟨b,o,none⟩->q≠some b)(hg:w.grownBy w' q):Ye w' w'.heap.size A xs:=λhne=>by
 obtain ⟨b,o,e,h1,h3⟩:=h hne;have hk:∀i,w'.cell? ⟨b,i,none⟩=w.cell? ⟨b,i,none⟩:=λi=>World.cell?_of_block (w:=w) (a:=⟨b,i,none⟩) (hg.block b h1 (λe'=>hn b o e e'.symm));refine ⟨b,o,e,Nat.lt_of_lt_of_le h1 hg.size,λi y hy=>?_⟩;obtain ⟨q0,q1,q2,q3⟩:=h3 i y hy;exact ⟨(hk _).trans q0,(hk _).trans q1,(hk _).trans q2,(hk _).trans q3⟩
structure Zgx (w:World)(q:Option Nat)(h:Eh)(e:En):Prop where
 ok:Zph w w.heap.size h e
 ub:∀b o,h.ua=some ⟨b,o,none⟩->b < w.heap.size/\q≠some b
 ab:∀b o,h.aa=some ⟨b,o,none⟩->b < w.heap.size/\q≠some b
theorem Zgx.later {w w':World}{q:Option Nat}{h:Eh}{e:En}(k:Zgx w q h e)(hb:RowKit.Below w.heap.size w w'):Zgx w' q h e:=
 ⟨(k.ok.below hb).more hb.size,λb o e=>⟨Nat.lt_of_lt_of_le (k.ub b o e).1 hb.size,(k.ub b o e).2⟩,λb o e=>⟨Nat.lt_of_lt_of_le (k.ab b o e).1 hb.size,(k.ab b o e).2⟩⟩
theorem Zgx.grown {w w':World}{q q':Option Nat}{h:Eh}{e:En}(k:Zgx w q h e)(hg:w.grownBy w' q)(hq:q'=q\/q'=some w.heap.size):Zgx w' q' h e:=by
 have key:∀b,b < w.heap.size/\q≠some b->b < w'.heap.size/\q'≠some b:=λb ⟨h1,h2⟩=>⟨Nat.lt_of_lt_of_le h1 hg.size,by
  rcases hq with rfl | rfl
  . exact h2
  . intro hh;injection hh with hh;omega⟩
 exact ⟨⟨k.ok.u,k.ok.un,k.ok.uc,k.ok.up.grown (λb o e=>(k.ub b o e).2) hg,k.ok.an,k.ok.ac,Zho k.ok.at_ (λb o e=>(k.ab b o e).2) hg⟩,λb o e=>key b (k.ub b o e),λb o e=>key b (k.ab b o e)⟩
def Qr (w:World)(q:Option Nat)(hs:List Eh)(es:List En):Prop:=hs.length=es.length/\∀(i:Nat) (h:Eh) (e:En),hs[i]? = some h->es[i]? = some e->Zgx w q h e
theorem Qr.later {w w':World}{q:Option Nat}{hs:List Eh}{es:List En}(k:Qr w q hs es)(hb:RowKit.Below w.heap.size w w'):Qr w' q hs es:=⟨k.1,λi h e h1 h2=>(k.2 i h e h1 h2).later hb⟩
theorem Qr.snoc {w w':World}{q q':Option Nat}{hs:List Eh}{es:List En}{h:Eh}{e:En}(k:Qr w q hs es)(x:Zgx w q h e)(hg:w.grownBy w' q)(hq:q'=q\/q'=some w.heap.size):Qr w' q' (hs ++ [h]) (es ++ [e]):=by
 refine ⟨by simp [k.1],λi h' e' h1 h2=>?_⟩;rcases Nat.lt_or_ge i hs.length with hi | hi
 . rw [List.getElem?_append_left hi] at h1;rw [List.getElem?_append_left (by rw [<-k.1];exact hi)] at h2;exact (k.2 i h' e' h1 h2).grown hg hq
 . rw [List.getElem?_append_right hi] at h1;rw [List.getElem?_append_right (by rw [<-k.1];exact hi),<-k.1] at h2;rcases Nat.eq_zero_or_pos (i - hs.length) with h0 | h0
   . rw [h0] at h1 h2;simp at h1 h2;subst h1 h2;exact x.grown hg hq
   . rw [List.getElem?_eq_none (by simp;omega)] at h1;cases h1
theorem Qr.nil (w:World)(q:Option Nat):Qr w q [] []:=⟨rfl,λi h e h1=>by simp at h1⟩
theorem Zdh {u:Ud}(h:Zw u=0):Km u:=by
 unfold Zw at h;split at h
 . rename_i h1;exact ⟨Q3 h1,Zid h⟩
 . rename_i h1;exact absurd h h1
theorem Z25 {ups:List Ud}(h:Ur ups=0):∀p∈ups,Zw p=0:=λp hp=>by
 obtain ⟨i,hi⟩:=List.getElem?_of_mem hp;unfold Ur at h;have h3:=Zbr h i (List.getElem?_eq_some_iff.1 hi).1;unfold Znc at h3;rw [hi] at h3;dsimp only at h3;split at h3
 . rename_i h4;exact absurd h3 h4
 . rename_i h4;exact Classical.not_not.1 h4
theorem Ztz {v:List Nd}(h:Zb v=0):Y0 v:=Zeo (Zpp h).1
theorem Zwr {es:List En}(h:Ym es=0):(∀e∈es,Km e.u)/\(∀e∈es,∀p∈e.up,Km p)/\∀e∈es,Y0 e.at_:=
 ⟨λe he=>Zdh (Zfi h e he).1,λe he p hp=>Zdh (Z25 (Znj (Zfi h e he).2).2.1 p hp),λe he=>Ztz (Znj (Zfi h e he).2).2.2.1⟩
theorem Zt2 {m:Mv}(hm:Zq m=0){v:List Nd}(h:GV m v)(hi:NdI v):NdI (mvV m v):=
 Zjc (Zpp (h.mv hm).2.1).1 λx hx h2=>hi x (Z2z hm h x hx h2)
theorem Zvk {w:World}{base:Nat}{v:Value}{hs:List Eh}{es:List En}{n:Nat}(hO:w.ownsRow base 109 4 v n (Zr ehC hs))(hE:Qr w v.ownBlock hs es)(h0:Ym es=0):∃A c,v=.slice A hs.length c/\hs.length<=c/\Jg w A hs es:=by
 obtain ⟨hn,A,c,hv,hc,-,hsl⟩:=Y1 Zju hO;subst hn;obtain ⟨h1,h2,h3⟩:=Zwr h0;exact ⟨A,c,hv,hc,hsl,⟨hE.1,λi h e a b=>(hE.2 i h e a b).ok⟩,h1,h2,h3⟩
theorem Zen {w w':World}{g:Nat}{t:TypeId}{cs:Array Value}{row:Option Nat}(h:Blk w g t cs)(hg:w.grownBy w' row)(hn:some g≠row):Blk w' g t cs:=(hg.block g h.lt hn).trans h
def MuS (m:Mv)(p:Ud)(g b:Nat)(W:World):Prop:=W.cell? ⟨g,0,none⟩=some (.int .i64 m.what)/\W.cell? ⟨g,1,none⟩=some (.string m.fr)/\W.cell? ⟨g,2,none⟩=some (.string m.to_)/\W.cell? ⟨b,0,none⟩=some (.string p.ty)/\W.cell? ⟨b,1,none⟩=some (.string p.id)
theorem MuS.of {m:Mv}{p:Ud}{g b:Nat}{W:World}(h:Blk W g 56 #[.int .i64 m.what,.string m.fr,.string m.to_])(h2:Blk W b 34 #[.string p.ty,.string p.id]):MuS m p g b W:=⟨h.cell 0,h.cell 1,h.cell 2,h2.cell 0,h2.cell 1⟩
theorem Zpb {w:World}{base:Nat}{e:TypeId}{size:Nat}{v:Value}{n:Nat}{xs:List Value}(h:w.ownsRow base e size v n xs){p:Addr}(hp:v.ownBlock≠some p.block)(u:Value):(w.setCell p u).ownsRow base e size v n xs:=
 h.kept (row:=some p.block) ⟨rfl,rfl,rfl,by simp,λk hk hne=>Below.heap_setCell w p u k (by intro e;apply hne;rw [e])⟩ (.inr hp)
theorem Zu6 (w:World)(p:Addr)(u:Value):w.grownBy (w.setCell p u) (some p.block):=
 ⟨rfl,rfl,rfl,by simp,λk _ hne=>Below.heap_setCell w p u k (by intro e;apply hne;rw [e])⟩
theorem Zy3 {m:Mv}{es:List En}{k:Nat}{e:En}(h:es[k]? = some e):(es.take (k+1)).map (mvE m)=(es.take k).map (mvE m) ++ [mvE m e]:=by rw [List.take_add_one,h];simp
theorem Zy8 {m:Mv}{us:List Ud}{k:Nat}{u:Ud}(h:us[k]? = some u):(us.take (k+1)).map (mvU m)=(us.take k).map (mvU m) ++ [mvU m u]:=by rw [List.take_add_one,h];simp
theorem Zxy:(Tryz.prog.info? 34).map (λi=>(i.zero,i.size,i.bytes))=some (some (.agg #[.string ⟨#[]⟩,.string ⟨#[]⟩]),2,32):=by kernel_rfl
theorem Zod:(Tryz.prog.info? 109).map (λi=>(i.zero,i.size,i.bytes))=some (some (.agg #[.string ⟨#[]⟩,.string ⟨#[]⟩,.slice none 0 0,.slice none 0 0]),4,80):=by kernel_rfl
theorem Zf4 {m:Mv}(hm:Zq m=0){v:List Nd}(h:GV m v):Un m v=(mvV m v,0):=by
 unfold Un;rw [if_neg (by simp [hm]),if_neg (by simp [h.ok]),Z27 hm h];rfl
theorem Zqy (m:Mv)(x:Aq)(w:World)(hz:MvZ m)(hI:Zdy x w)(hm:Zq m=0)(h0:Ym x.es=0)(hes:EsF m x.es) :
 Calls Tryz.prog 29 #[.agg #[.int .i64 m.what,.string m.fr,.string m.to_],.slice x.Ea x.hs.length x.ec] w λr w'=>∃A c hs',r=.returned (.tuple #[.slice A hs'.length c,.nilIface])/\hs'.length<=c/\Jg w' A hs' (x.es.map (mvE m))/\RowKit.Below w.heap.size w w':=by
 have h0':=Zfp hm hes h0;have H0':=Ld h0';have HC:=Ld (λW=>Vy m W hz);have HE:=Ld (λW (hW:RowKit.Below w.heap.size w W)=>Ul x.hs x.es x.Ea x.ec W (hI.later hW).ents hI.ec);have HE2:=Ld (λW A c hs' (h1:Jg W A hs' (x.es.map (mvE m))) (h2:hs'.length<=c)=>Ul hs' _ A c W h1 h2);have HU:=Ld (λW u=>Zcc m u W);have HV:=Ld (λW (hW:RowKit.Below w.heap.size w W) (k:Nat) (h:Eh) (e:En) (hk:x.hs[k]? = some h) (he:x.es[k]? = some e)=>show Calls Tryz.prog 32 #[.agg #[.int .i64 m.what,.string m.fr,.string m.to_],.slice h.aa e.at_.length h.ac] W λr w'=>Zcm W r w' (mvV m e.at_) 0 by
  have hE:=(hI.later hW).ents.ens.at_ k h e hk he;have hem:=mG he;have:=Zhw m e.at_ h.aa h.ac W hz (by rw [<-hE.an];exact hE.ac.1) hE.ac.2 ((hI.later hW).ents.az e hem) hE.at_;rw [Zf4 hm (hes.at_ e hem).1] at this;exact this)
 rw [hm] at HC;rw [h0] at HE;rw [h0'] at HE2;unfold Zcm at HV;rw [Zv] at HC HE HE2 HV;have hl:x.hs.length<=16:=by
  have h1:=hI.ents.ens.len;unfold Ym at h0;split at h0
  . cases h0
  . omega
 have HUL:=Ld (show ∀e∈x.es,e.up.length<=6 from λe he=>(Znj (Zfi h0 e he).2).1);have HLE:=Ld hI.ents.ens.len;have HI:=Ld hI;have HAL:=Ld (show ∀e∈x.es,(mvV m e.at_).length=e.at_.length from λe he=>((hes.at_ e he).1.mv hm).2.2.1);have HNE:=Ld (show ∀e∈x.es,mvV m e.at_≠[] from λe he hc=>by
  have h1:=(hes.at_ e he).2;rw [<-Jh hm (hes.at_ e he).1,hc] at h1;cases h1)
 obtain ⟨iu,hiu,hu0,hu1,hu2⟩:=info_parts Zxy;obtain ⟨ie,hie,he0,he1,he2⟩:=info_parts Zod;have B0:=Ld (Blk.new w 56 #[.int .i64 m.what,.string m.fr,.string m.to_]);have HB0:Hid (RowKit.Below w.heap.size w (w.alloc (.cells #[.int .i64 m.what,.string m.fr,.string m.to_] 56))):=by show RowKit.Below _ _ _;(repeat (first | assumption | exact bR | apply bD | apply Za | refine bA ?_ _))
 clear hm h0 h0' hes hI;go_enter Tryz.func29,Tryz.ntmps29
 go_wp2_with fail
 refine (HC.out _).mono ?_;rintro r w1 ⟨rfl,hb1⟩;have HB1:=Ld (HB0.out.trans (hb1.mono HB0.out.size));have B1:=Ld (B0.out.below hb1 B0.out.lt);clear hb1 B0 HB0 HC;go_wp2_with fail
 refine (HE.out _ HB1.out).mono ?_;rintro r w2 ⟨rfl,hb2⟩;have HB2:=Ld (HB1.out.trans (hb2.mono HB1.out.size));have B2:=Ld (B1.out.below hb2 B1.out.lt);clear hb2 B1 HB1 HE;go_wp2_with fail
 go_loopw [8,29] (λov kk wr=>∃(k:Nat) (hs':List Eh),kk=.int .i64 k/\k<=x.hs.length/\hs'.length=k/\Hid (wr.ownsRow w2.heap.size 109 4 ov k (Zr ehC hs'))/\Hid (Qr wr ov.ownBlock hs' ((x.es.take k).map (mvE m)))/\RowKit.Below w2.heap.size w2 wr) (λ_ kk _=>x.hs.length - (intOf kk).toNat)
 case atStart=>exact ⟨0,[],rfl,by omega,rfl,World.ownsRow_nil _ _ _ _,Qr.nil _ _,RowKit.Below.refl _ _⟩
 case round=>
  obtain ⟨k,hs',rfl,hk,hkl,HO,HN,hbr⟩:=hrel;obtain ⟨wo,rfl⟩:∃wo,wo=wr:=⟨_,rfl⟩;obtain ⟨-,Ao,co,hov,-⟩:=Y1 Zju HO.out;subst hov;have hzr:=hbr.size;have B3:=Ld (B2.out.below hbr B2.out.lt);have HB3:=Ld (HB2.out.trans (hbr.mono HB2.out.size));by_cases hlt:k < x.hs.length
  case neg=>
   have e1:x.es.take k=x.es:=List.take_of_length_le (by rw [<-HLE.out];omega);rw [e1] at HN;obtain ⟨Af,cf,hv,hcf,hei⟩:=Zvk HO.out HN.out H0'.out;injection hv with v1 v2 v3
   subst v1 v3;subst hkl;clear e1 v2;have HEI:=Ld hei;have HCF:=Ld hcf;clear hei hcf;go_wp2_with fail
   refine (HE2.out _ Ao co hs' HEI.out HCF.out).mono ?_;rintro r w9 ⟨rfl,hb9⟩;have HB9:=Ld (HB3.out.trans (hb9.mono HB3.out.size));have HE9:=Ld (HEI.out.later hb9);clear hb9;go_wp2_with fail
   go_ret2
   exact ⟨Ao,co,hs',rfl,HCF.out,HE9.out,HB9.out⟩
  obtain ⟨h,hh⟩:∃h,x.hs[k]? = some h:=⟨_,gE hlt⟩;obtain ⟨e,he⟩:∃e,x.es[k]? = some e:=⟨_,gE (by rw [<-HLE.out];exact hlt)⟩;have hem:=mG he;have hIr:=HI.out.later HB3.out;have hE:=hIr.ents.ens.at_ k h e hh he;obtain ⟨b,o,hA,hb,d0,d1,d2,d3⟩:=Zc7 hIr.ents.sl hh;rw [hA];rw [hE.u] at d0 d1;rw [hE.un] at d2;rw [hE.an] at d3;have i1:(0:Int)<=(k:Int):=by omega
  have i2:(k:Int) < (x.hs.length:Int):=by omega
  have cc:=B3.out.cell;have cl:=B3.out.lt;have HUP:=Ld hE.up;have hu6:=HUL.out e hem;have huc:=hE.uc;rw [hE.un] at huc;have HH:=Ld hh;have HEE:=Ld he;clear hE hIr hh he;go_wp2_with fail
  have hx10:RowKit.Below wo.heap.size wo (wo.alloc (.cells #[.string e.u.ty,.string e.u.id,.slice h.ua e.up.length h.uc,.slice h.aa e.at_.length h.ac] 109)):=by (repeat (first | assumption | exact bR | apply bD | apply Za | refine bA ?_ _))
  have HX10:=Ld hx10;have E10:=Ld (Blk.new wo 109 #[.string e.u.ty,.string e.u.id,.slice h.ua e.up.length h.uc,.slice h.aa e.at_.length h.ac]);have B10:=Ld (B3.out.below hx10 B3.out.lt);clear hx10 cc cl;refine (HU.out _ e.u).mono ?_;rintro r w4 ⟨rfl,hb4⟩;have HX4:=Ld (HX10.out.trans (hb4.mono HX10.out.size));have E4:=Ld (E10.out.below hb4 E10.out.lt);have B4:=Ld (B10.out.below hb4 B10.out.lt);have hw4:wo.heap.size < w4.heap.size:=E4.out.lt;have hx5:RowKit.Below w4.heap.size w4 (w4.alloc (.cells #[.string (mvU m e.u).ty,.string (mvU m e.u).id,.slice none 0 0,.slice none 0 0] 109)):=by (repeat (first | assumption | exact bR | apply bD | apply Za | refine bA ?_ _))
  have E5:=Ld (E4.out.below hx5 E4.out.lt);have B5:=Ld (B4.out.below hx5 B4.out.lt);have U5:=Ld (Blk.new w4 109 #[.string (mvU m e.u).ty,.string (mvU m e.u).id,.slice none 0 0,.slice none 0 0]);have HX5:=Ld (HX4.out.trans (hx5.mono HX4.out.size));clear hb4 HX10 E10 B10 hx5 HX4 E4 B4;have cc:=E5.out.cell;have cl:=E5.out.lt;go_wp2_with fail
  generalize hw5:w4.alloc (.cells #[.string (mvU m e.u).ty,.string (mvU m e.u).id,.slice none 0 0,.slice none 0 0] 109)=w5 at E5 B5 U5 HX5 ⊢;have hs5:w5.heap.size=w4.heap.size+1:=by rw [<-hw5];simp
  clear hw5 cc cl;go_loopw [41] (λjj wr=>∃(j:Nat) (uv:Value),jj=.int .i64 j/\j<=e.up.length/\Hid (Blk wr w4.heap.size 109 #[.string (mvU m e.u).ty,.string (mvU m e.u).id,uv,.slice none 0 0])/\Hid (wr.ownsRow w5.heap.size 34 2 uv j (Zr udC ((e.up.take j).map (mvU m))))/\RowKit.Below w4.heap.size w5 wr) (λjj _=>e.up.length - (intOf jj).toNat)
  case atStart=>exact ⟨0,_,rfl,by omega,U5,World.ownsRow_nil _ _ _ _,RowKit.Below.refl _ _⟩
  case round=>
   obtain ⟨j,uv,rfl,hj,HUB,HOu,hb2⟩:=hrel;have hzr2:=hb2.size;have E6:=Ld (E5.out.below hb2 hw4);have B6:=Ld (B5.out.below hb2 (Nat.lt_of_lt_of_le B3.out.lt (Nat.le_of_lt hw4)));have HX6:=Ld (HX5.out.trans (hb2.mono (Nat.le_of_lt hw4)));by_cases hlj:j < e.up.length
   case neg=>
    obtain rfl:j=e.up.length:=(by omega);rw [List.take_length] at HOu;obtain ⟨-,A8,c8,hv8,h81,h82,h83⟩:=Y1 Zsj HOu.out;subst hv8;obtain ⟨w6,rfl⟩:∃w6,w6=wr:=⟨_,rfl⟩;have ec:=E6.out.cell;have el:=E6.out.lt;have mc:=B6.out.cell;have ml:=B6.out.lt;clear hj hlj;go_wp2_with fail
    refine (HV.out w6 (HB3.out.trans (HX6.out.mono HB3.out.size)) k h e HH.out HEE.out).mono ?_;rintro r w7 ⟨A7,c7,rfl,n1,n2,n3,hb7,n4⟩;have T7:=Ld (HUB.out.below hb7 HUB.out.lt);have tc:=T7.out.cell;have tf:=T7.out.frozen;have tl:=T7.out.lt;obtain ⟨N7,hN7⟩:∃N7,(mvV m e.at_).length=N7:=⟨_,rfl⟩;rw [hN7] at n1 ⊢;have HN1:=Ld n1;have HN2:=Ld n2;have HN3:=Ld n3;have HN4:=Ld n4;have HB7:=Ld hb7;have HN7:=Ld hN7;clear n1 n2 n3 n4 hb7 hN7 ec el mc ml;have HOL8:=Ld (show ∀b o,A8=some ⟨b,o,none⟩->w5.heap.size<=b/\b < w6.heap.size from λb o e=>Yf HOu.out (by rw [e];rfl));have HOLo:=Ld (show ∀b,(Value.slice Ao k co).ownBlock=some b->w2.heap.size<=b/\b < wo.heap.size from λb hb=>Yf HO.out hb);have hsz7:=HB7.out.size;have hw46:w4.heap.size < w6.heap.size:=HUB.out.lt;have HH8:=Ld h83;clear h83;go_upto_region 21 with fail
    have X11:Hid (Blk (w7.setCell ⟨w4.heap.size,3,none⟩ (.slice A7 N7 c7)) w4.heap.size 109 #[.string (mvU m e.u).ty,.string (mvU m e.u).id,.slice A8 e.up.length c8,.slice A7 N7 c7]):=Ld (T7.out.set 3 _);have HXo:=Ld (HX6.out.trans (HB7.out.mono HX6.out.size));have Hgs:=Zu6 w7 ⟨w4.heap.size,3,none⟩ (.slice A7 N7 c7);have HXs:Hid (RowKit.Below wo.heap.size wo (w7.setCell ⟨w4.heap.size,3,none⟩ (.slice A7 N7 c7))):=Ld (HXo.out.setCell (Nat.le_of_lt hw4) _);have hzs:(w7.setCell ⟨w4.heap.size,3,none⟩ (.slice A7 N7 c7)).heap.size=w7.heap.size:=(by simp);have HUs:Hid (Zxf (w7.setCell ⟨w4.heap.size,3,none⟩ (.slice A7 N7 c7)) (w7.setCell ⟨w4.heap.size,3,none⟩ (.slice A7 N7 c7)).heap.size A8 (e.up.map (mvU m))):=Ld (((HH8.out.below HB7.out).more HB7.out.size).grown (λb o e e2=>by injection e2 with e2;have:=HOL8.out b o e;dsimp only at e2;omega) Hgs);have HNs:Hid (Ye (w7.setCell ⟨w4.heap.size,3,none⟩ (.slice A7 N7 c7)) (w7.setCell ⟨w4.heap.size,3,none⟩ (.slice A7 N7 c7)).heap.size A7 (mvV m e.at_)):=Ld (Zho HN3.out (λb o e e2=>by injection e2 with e2;have:=HN4.out b o e;dsimp only at e2;omega) Hgs);have hne7:mvV m e.at_≠[]:=HNE.out e hem;have hs7:∀b o,A7=some ⟨b,o,none⟩->b < w7.heap.size:=λb o e=>by
     obtain ⟨b',o',e',h1,_⟩:=HN3.out hne7;rw [e] at e';injection e' with e';injection e' with e1 e2;omega
    clear Hgs;generalize hws:w7.setCell ⟨w4.heap.size,3,none⟩ (.slice A7 N7 c7)=ws at X11 HXs hzs HUs HNs ⊢;clear hws tc tf tl;have hxa:RowKit.Below ws.heap.size ws (ws.alloc (.cells #[.string (mvU m e.u).ty,.string (mvU m e.u).id,.slice A8 e.up.length c8,.slice A7 N7 c7] 109)):=(by (repeat (first | assumption | exact bR | apply bD | apply Za | refine bA ?_ _)));have HXA:=Ld (HXs.out.trans (hxa.mono HXs.out.size));have HRX:=Ld (Vq HO.out HXA.out);have HNO:=Ld (HN.out.later HXA.out);have hza:(ws.alloc (.cells #[.string (mvU m e.u).ty,.string (mvU m e.u).id,.slice A8 e.up.length c8,.slice A7 N7 c7] 109)).heap.size=ws.heap.size+1:=(by simp);have HEO:Hid (Zgx (ws.alloc (.cells #[.string (mvU m e.u).ty,.string (mvU m e.u).id,.slice A8 e.up.length c8,.slice A7 N7 c7] 109)) (Value.slice Ao k co).ownBlock ⟨mvU m e.u,A8,e.up.length,c8,A7,N7,c7⟩ (mvE m e)):=by
     refine Ld ⟨⟨rfl,by simp [mvE],⟨h81,h82⟩,(HUs.out.below hxa).more hxa.size,HN7.out.symm,⟨HN1.out,HN2.out⟩,(HNs.out.below hxa).more hxa.size⟩,λb o e=>?_,λb o e=>?_⟩
     . have:=HOL8.out b o e;refine ⟨by omega,λe2=>?_⟩;have:=(HOLo.out b e2).2;omega
     . have h1:=HN4.out b o e;have h2:=hs7 b o e;refine ⟨by omega,λe2=>?_⟩;have:=(HOLo.out b e2).2;omega
    have HNB:=Ld (Blk.new ws 109 #[.string (mvU m e.u).ty,.string (mvU m e.u).id,.slice A8 e.up.length c8,.slice A7 N7 c7]);have HTK:Hid (Zr ehC hs' ++ [.string (mvU m e.u).ty,.string (mvU m e.u).id,.slice A8 e.up.length c8,.slice A7 N7 c7]=Zr ehC (hs' ++ [⟨mvU m e.u,A8,e.up.length,c8,A7,N7,c7⟩])):=by
     show _=_;rw [Y6,J9];rfl
    have HXB:=Ld (hbr.trans (HXA.out.mono hbr.size));have xc:=X11.out.cell;have xl:=X11.out.lt;clear hxa HUs HNs hs7 hne7 hzs hza;go_wp2_with (at_builtin;refine wpList_append_own_at _ rfl (.tmp 66) (.tmp 68) 42 rfl w2.heap.size 109 ie _ 4 80 Tryz.underlying42 hie he0 he1 he2 rfl (by omega) _ k (Zr ehC hs') rfl HRX.out ⟨ws.heap.size,0,none⟩ 1 1 [.string (mvU m e.u).ty,.string (mvU m e.u).id,.slice A8 e.up.length c8,.slice A7 N7 c7] rfl rfl (λi u hu=>by rw [Vs,Nat.zero_add,HNB.out.cell,<-hu];simp) (by simp [Value.oneCell']) (by unfold maxLen;omega) (by omega) (by have:=HXB.out.size;omega) ?_;intro v9 w9 hown9 hgrow9 _ hloc9;rw [HTK.out] at hown9;have HR9:=Ld hown9;have HS9:=Ld (HNO.out.snoc HEO.out hgrow9 hloc9);have HB9:Hid (RowKit.Below w2.heap.size w2 w9):=(HXB.out.grown hgrow9 (by have:=HXB.out.size;omega) (λq hq=>(HOLo.out q hq).1));clear hown9 hgrow9 hloc9)
    rw [<-Zy3 HEE.out] at HS9;exact ⟨⟨k+1,hs' ++ [⟨mvU m e.u,A8,e.up.length,c8,A7,N7,c7⟩],by go_num,by omega,by simp [hkl],HR9,HS9,HB9.out⟩,by simp [intOf];omega⟩
   obtain ⟨p,hp⟩:∃p,e.up[j]? = some p:=⟨_,gE hlj⟩;obtain ⟨b2,o2,hA2,hb2l,p0,p1⟩:=Zc6 (HUP.out.below HX6.out) hp;rw [hA2];have j1:(0:Int)<=(j:Int):=(by omega);have j2:(j:Int) < (e.up.length:Int):=(by omega);have HP:=Ld hp;have hb2m:b2 < wr.heap.size:=Nat.lt_of_lt_of_le hb2l HX6.out.size;clear hp;go_wp2_with fail
   have F11:=Ld (HUB.out.alloc (.cells #[.string p.ty,.string p.id] 34));have FB:=Ld (B6.out.alloc (.cells #[.string p.ty,.string p.id] 34));have FP:=Ld (Blk.new wr 34 #[.string p.ty,.string p.id]);have FE:=Ld (E6.out.alloc (.cells #[.string p.ty,.string p.id] 34));have hxw:RowKit.Below wr.heap.size wr (wr.alloc (.cells #[.string p.ty,.string p.id] 34)):=(by (repeat (first | assumption | exact bR | apply bD | apply Za | refine bA ?_ _)));have HOw:=Ld (Vq HOu.out hxw);have HXw:=Ld (hb2.trans (hxw.mono (by omega)));have hszw:(wr.alloc (.cells #[.string p.ty,.string p.id] 34)).heap.size=wr.heap.size+1:=(by simp);clear hxw;generalize hw6:wr.alloc (.cells #[.string p.ty,.string p.id] 34)=w6 at F11 FB FP FE HOw HXw hszw ⊢;clear hw6;refine Zhg (S:=MuS m p w.heap.size wr.heap.size) (S1:=λW=>W.cell? ⟨w4.heap.size,2,none⟩=some uv) 6 [(0,0),(2,0),(3,0),(1,2),(4,1),(5,1),(6,3),(7,0),(8,3)] (by kernel_rfl) (by kernel_rfl) (λ_ _ _ _ _ h=>h) (MuS.of FB.out.drew FP.out.drew) (F11.out.drew.cell 2) ?_;simp only [Q4,List.filterMap_cons,List.filterMap_nil,List.getElem?_cons_zero,List.getElem?_cons_succ,Option.map_some];(repeat (first | (refine Zt6 (v:=?_) (by rfl) ?_ ?_;rotate_left;(focus (intro W hW;obtain ⟨s0,s1,s2,s3,s4⟩:=hW;go_simp;try with_reducible rfl));simp only [Act.put,pA,pB,pC]) | (refine Zpg (v:=?_) (by rfl) ?_ ?_;rotate_left;(focus (intro W hW;obtain ⟨⟨s0,s1,s2,s3,s4⟩,t0⟩:=hW;go_simp;try with_reducible rfl));simp only [Act.put,pA,pB,pC])))
   have HD6:Hid (RowKit.Below w6.heap.size w6 w6.drew):=(RowKit.Below.refl _ _).drew;refine Zs9 (λK hK=>?_);go_simp
   refine (HU.out _ p).mono ?_;rintro r w7 ⟨rfl,hb7⟩;have HX7:=Ld (HD6.out.trans (hb7.mono HD6.out.size));have G11:=Ld (F11.out.below HX7.out F11.out.lt);have GB:=Ld (FB.out.below HX7.out FB.out.lt);have GP:=Ld (FP.out.below HX7.out FP.out.lt);have GE:=Ld (FE.out.below HX7.out FE.out.lt);have HO7:=Ld (Vq HOw.out HX7.out);refine hK _ _ (MuS.of GB.out GP.out) (G11.out.cell 2) ?_;clear hK K hb7 HD6 F11 FB FP FE HOw;refine Zs9 (λK hK=>?_);go_simp
   refine hK _ _ (MuS.of (GB.out.alloc _) (GP.out.alloc _)) ((G11.out.alloc _).cell 2) ?_;clear hK K;have hx8:RowKit.Below w7.heap.size w7 (w7.alloc (.cells #[.string (mvU m p).ty,.string (mvU m p).id] 34)):=(by (repeat (first | assumption | exact bR | apply bD | apply Za | refine bA ?_ _)));have HO8:=Ld (Vq HO7.out hx8);have HX8:=Ld (HX7.out.trans (hx8.mono HX7.out.size));have HN8:=Ld (Blk.new w7 34 #[.string (mvU m p).ty,.string (mvU m p).id]);have I11:=Ld (G11.out.alloc (.cells #[.string (mvU m p).ty,.string (mvU m p).id] 34));have IB:=Ld (GB.out.alloc (.cells #[.string (mvU m p).ty,.string (mvU m p).id] 34));have IP:=Ld (GP.out.alloc (.cells #[.string (mvU m p).ty,.string (mvU m p).id] 34));have hz8:(w7.alloc (.cells #[.string (mvU m p).ty,.string (mvU m p).id] 34)).heap.size=w7.heap.size+1:=(by simp);have hz7:=HX7.out.size;have HOL:=Ld (show ∀b,uv.ownBlock=some b->w5.heap.size<=b/\b < wr.heap.size from λb hb=>Yf HOu.out hb);have HTK:Hid (Zr udC ((e.up.take j).map (mvU m))++udC (mvU m p)=Zr udC ((e.up.take (j+1)).map (mvU m))):=by
    show _=_;rw [Zy8 HP.out,Y6,J9]
   clear hx8 HO7 G11 GB GP;generalize hw8:w7.alloc (.cells #[.string (mvU m p).ty,.string (mvU m p).id] 34)=w8 at HO8 HX8 HN8 I11 IB IP hz8 ⊢;clear hw8;refine Zs0 (λK hK=>?_);refine Zl4 (by rfl) _ _ _ (by rfl) _ _ (by rfl) (by rfl) (λv' w'=>w'.ownsRow w5.heap.size 34 2 v' (j+1) (Zr udC ((e.up.take (j+1)).map (mvU m)))/\w8.grownBy w' uv.ownBlock/\(v'.ownBlock=uv.ownBlock\/v'.ownBlock=some w8.heap.size)) ?_ ?_
   . obtain ⟨v',w',hr,g2,g3,_,g5⟩:=run_append_own_at (P:=Tryz.prog) w8 w5.heap.size 107 107 34 iu _ 2 32 Tryz.underlying107 hiu hu0 hu1 hu2 rfl (by omega) _ j _ HO8.out ⟨w7.heap.size,0,none⟩ 1 1 (udC (mvU m p)) rfl
      (λi u hu=>by rw [Vs,Nat.zero_add,HN8.out.cell,<-hu];simp [udC]) (by simp [udC,Value.oneCell']) (by unfold maxLen;omega) (by omega) (by omega)
     rw [HTK.out] at g2;exact ⟨v',w',hr,g2,g3,g5⟩
   rintro v9 w9 ⟨hO9,hg9,hl9⟩;obtain ⟨-,A9,c9,hv9,-⟩:=Y1 Zsj hO9;subst hv9;have K11:=Ld (Zen I11.out hg9 (λe=>by have:=(HOL.out _ e.symm).1;omega));have KB:=Ld (Zen IB.out hg9 (λe=>by have:=(HOL.out _ e.symm).1;have:=B3.out.lt;omega));have KP:=Ld (Zen IP.out hg9 (λe=>by have:=(HOL.out _ e.symm).2;omega));have HO9:=Ld hO9;have HG9:=Ld hg9;have HL9:=Ld hl9;refine hK _ _ (MuS.of KB.out KP.out) ?_;clear hK K I11 IB IP HO8 HN8 hO9 hg9 hl9 HTK;(repeat (first | (refine Zt6 (v:=?_) (by rfl) ?_ ?_;rotate_left;(focus (intro W hW;obtain ⟨s0,s1,s2,s3,s4⟩:=hW;go_simp;try with_reducible rfl));simp only [Act.put,pA,pB,pC]) | (refine Zpg (v:=?_) (by rfl) ?_ ?_;rotate_left;(focus (intro W hW;obtain ⟨⟨s0,s1,s2,s3,s4⟩,t0⟩:=hW;go_simp;try with_reducible rfl));simp only [Act.put,pA,pB,pC])))
   have kc:=K11.out.cell;have kf:=K11.out.frozen;have kl:=K11.out.lt;refine Zs0 (λK hK=>?_);go_simp
   refine hK _ _ ?_ ?_
   . exact MuS.of (KB.out.far (by have:=B3.out.lt;simp;omega) _) (KP.out.far (by simp;omega) _)
   clear hK K;refine Z46 ?_;go_wp2_with fail
   have hb9:RowKit.Below w4.heap.size w5 w9:=(HXw.out.trans (HX8.out.mono (by omega))).grown HG9.out (by have:=HX8.out.size;omega) (λq hq=>by have:=(HOL.out q hq).1;omega);refine ⟨⟨j+1,.slice A9 (j+1) c9,by go_num,by omega,K11.out.set 2 _,Zpb HO9.out (p:=⟨w4.heap.size,2,none⟩) (λe=>by have:=(Yf HO9.out e).1;have:(w4.heap.size:Nat)=(⟨w4.heap.size,2,none⟩:Addr).block:=rfl;omega) _,hb9.setCell (nL _) _⟩,by simp [intOf];omega⟩
def MqS (m:Mv)(x:Aq)(g:Nat)(w1 W:World):Prop:=W.cell? ⟨g,0,none⟩=some (.int .i64 m.what)/\W.cell? ⟨g,1,none⟩=some (.string m.fr)/\W.cell? ⟨g,2,none⟩=some (.string m.to_)/\W.cell? ⟨g+1,0,none⟩=some (.string x.q.who.ty)/\W.cell? ⟨g+1,1,none⟩=some (.string x.q.who.id)/\W.cell? ⟨g+1,2,none⟩=some (.string x.q.act.ty)/\W.cell? ⟨g+1,3,none⟩=some (.string x.q.act.id)/\W.cell? ⟨g+1,4,none⟩=some (.string x.q.what.ty)/\W.cell? ⟨g+1,5,none⟩=some (.string x.q.what.id)/\RowKit.Below (g+2) w1 W
theorem MqS.of {m:Mv}{x:Aq}{g:Nat}{w1 W:World}(h:Blk w1 g 56 #[.int .i64 m.what,.string m.fr,.string m.to_])(h2:Blk w1 (g+1) 39 #[.string x.q.who.ty,.string x.q.who.id,.string x.q.act.ty,.string x.q.act.id,.string x.q.what.ty,.string x.q.what.id,.slice x.qa x.q.ctx.length x.qc])(hB:RowKit.Below (g+2) w1 W):MqS m x g w1 W:=by
 have h:=h.below hB (by omega);have h2:=h2.below hB (by omega);exact ⟨h.cell 0,h.cell 1,h.cell 2,h2.cell 0,h2.cell 1,h2.cell 2,h2.cell 3,h2.cell 4,h2.cell 5,hB⟩
theorem Zlx (m:Mv)(x:Aq)(w:World)(hz:MvZ m)(hI:Zdy x w)(hm:Zq m=0)(hq:Vr x.q=0)(hv:(Un m x.q.ctx).2=0) :
 Calls Tryz.prog 30 #[.agg #[.int .i64 m.what,.string m.fr,.string m.to_],.agg #[.string x.q.who.ty,.string x.q.who.id,.string x.q.act.ty,.string x.q.act.id,.string x.q.what.ty,.string x.q.what.id,.slice x.qa x.q.ctx.length x.qc]] w λr w'=>∃A c,r=.returned (.tuple #[.agg #[.string (mvU m x.q.who).ty,.string (mvU m x.q.who).id,.string (mvU m x.q.act).ty,.string (mvU m x.q.act).id,.string (mvU m x.q.what).ty,.string (mvU m x.q.what).id,.slice A (Un m x.q.ctx).1.length c],.nilIface])/\(Un m x.q.ctx).1.length<=c/\c<=9223372036854775807/\Ye w' w'.heap.size A (Un m x.q.ctx).1/\RowKit.Below w.heap.size w w':=by
 have HC:=Ld (λW=>Vy m W hz);have HQ:=Ld (λW (hW:RowKit.Below w.heap.size w W)=>Qj x.q x.qa x.qc W hI.qz.1 hI.qz.2.1 hI.qz.2.2 hI.qc.1 hI.qc.2 hI.qk (hI.later hW).ctx);have HV:=Ld (λW (hW:RowKit.Below w.heap.size w W)=>Zhw m x.q.ctx x.qa x.qc W hz hI.qc.1 hI.qc.2 hI.qk (hI.later hW).ctx);have HU1:=Ld (λW=>Zcc m x.q.who W);have HU2:=Ld (λW=>Zcc m x.q.act W);have HU3:=Ld (λW=>Zcc m x.q.what W);rw [hm] at HC;rw [hq] at HQ;rw [hv] at HV;unfold Zcm at HV;rw [Zv] at HC HQ HV;generalize (Un m x.q.ctx).1=X at HV ⊢;generalize mvU m x.q.who=u1 at HU1 ⊢;generalize mvU m x.q.act=u2 at HU2 ⊢;generalize mvU m x.q.what=u3 at HU3 ⊢;clear hm hq hv;obtain ⟨w0,hw0⟩:∃w0,w0=((w.alloc (.cells #[.int .i64 m.what,.string m.fr,.string m.to_] 56)).alloc (.cells #[.string x.q.who.ty,.string x.q.who.id,.string x.q.act.ty,.string x.q.act.id,.string x.q.what.ty,.string x.q.what.id,.slice x.qa x.q.ctx.length x.qc] 39)).alloc (.cells #[.string ⟨#[]⟩,.string ⟨#[]⟩,.string ⟨#[]⟩,.string ⟨#[]⟩,.string ⟨#[]⟩,.string ⟨#[]⟩,.slice none 0 0] 39):=⟨_,rfl⟩;have hb0:RowKit.Below w.heap.size w w0:=by rw [hw0];(repeat (first | assumption | exact bR | apply bD | apply Za | refine bA ?_ _))
 have B0:Hid (Blk w0 w.heap.size 56 #[.int .i64 m.what,.string m.fr,.string m.to_]):=by
  show Blk _ _ _ _;rw [hw0];exact ((Blk.new w 56 #[.int .i64 m.what,.string m.fr,.string m.to_]).alloc _).alloc _
 have D0:Hid (Blk w0 (w.heap.size+1) 39 #[.string x.q.who.ty,.string x.q.who.id,.string x.q.act.ty,.string x.q.act.id,.string x.q.what.ty,.string x.q.what.id,.slice x.qa x.q.ctx.length x.qc]):=by
  show Blk _ _ _ _;rw [hw0];have:=(Blk.new (w.alloc (.cells #[.int .i64 m.what,.string m.fr,.string m.to_] 56)) 39 #[.string x.q.who.ty,.string x.q.who.id,.string x.q.act.ty,.string x.q.act.id,.string x.q.what.ty,.string x.q.what.id,.slice x.qa x.q.ctx.length x.qc]);rw [World.size_alloc] at this;exact this.alloc _
 have R0:Hid (Blk w0 (w.heap.size+2) 39 #[.string ⟨#[]⟩,.string ⟨#[]⟩,.string ⟨#[]⟩,.string ⟨#[]⟩,.string ⟨#[]⟩,.string ⟨#[]⟩,.slice none 0 0]):=by
  show Blk _ _ _ _;rw [hw0];have:=(Blk.new ((w.alloc (.cells #[.int .i64 m.what,.string m.fr,.string m.to_] 56)).alloc (.cells #[.string x.q.who.ty,.string x.q.who.id,.string x.q.act.ty,.string x.q.act.id,.string x.q.what.ty,.string x.q.what.id,.slice x.qa x.q.ctx.length x.qc] 39)) 39 #[.string ⟨#[]⟩,.string ⟨#[]⟩,.string ⟨#[]⟩,.string ⟨#[]⟩,.string ⟨#[]⟩,.string ⟨#[]⟩,.slice none 0 0]);rw [World.size_alloc,World.size_alloc] at this;exact this
 have HB0:=Ld hb0;have HW0:=Ld hw0;clear hb0 hw0 hI;go_enter Tryz.func30,Tryz.ntmps30
 go_wp2_with fail
 rw [<-HW0.out];refine (HC.out _).mono ?_;rintro r w1 ⟨rfl,hb1⟩;have HB1:=Ld (HB0.out.trans (hb1.mono HB0.out.size));have B1:=Ld (B0.out.below hb1 B0.out.lt);have D1:=Ld (D0.out.below hb1 D0.out.lt);have R1:=Ld (R0.out.below hb1 R0.out.lt);clear hb1 B0 D0 R0 HB0 HW0 HC;have cc:=D1.out.cell;have cl:=D1.out.lt;go_wp2_with fail
 refine (HQ.out _ HB1.out).mono ?_;rintro r w2 ⟨rfl,hb2⟩;have HB2:=Ld (HB1.out.trans (hb2.mono HB1.out.size));have B2:=Ld (B1.out.below hb2 B1.out.lt);have D2:=Ld (D1.out.below hb2 D1.out.lt);have R2:=Ld (R1.out.below hb2 R1.out.lt);clear hb2 B1 D1 R1 HB1 HQ cc cl;have cc:=D2.out.cell;have cl:=D2.out.lt;have mc:=B2.out.cell;have ml:=B2.out.lt;go_wp2_with fail
 refine (HV.out _ HB2.out).mono ?_;rintro r w3 ⟨A,c,rfl,h1,h2,h3,hb3,h4⟩;have H4:=Ld h4;have hg3:w.heap.size+2 < w2.heap.size:=R2.out.lt;have HG3:=Ld hg3;have HS3:=Ld h3;have HB3:=Ld (HB2.out.trans (hb3.mono HB2.out.size));have B3:=Ld (B2.out.below hb3 B2.out.lt);have D3:=Ld (D2.out.below hb3 D2.out.lt);have R3:=Ld (R2.out.below hb3 R2.out.lt);have HL1:=Ld h1;have HL2:=Ld h2;clear hb3 B2 D2 R2 HB2 HV cc cl mc ml h3 h1 h2 h4 hg3;go_wp2_with fail
 have hg2:w.heap.size+2<=w3.heap.size:=Nat.le_of_lt R3.out.lt;have HS0:=Ld (MqS.of B3.out D3.out ((RowKit.Below.refl (w.heap.size+2) w3).drew));refine Zg (S:=MqS m x w.heap.size w3) [(0,false),(1,false),(2,false),(4,false),(5,false),(6,false),(8,false),(9,false),(10,false),(12,false),(3,true),(7,true),(11,true),(13,false),(14,true),(15,false)] (by kernel_rfl) (by kernel_rfl) (λ_ _ _ _ _ h=>h) HS0.out (λhW'=>?_);clear HS0 hW';have HD3:Hid (RowKit.Below w3.heap.size w3 w3.drew):=(RowKit.Below.refl _ _).drew;simp only [Yl,List.filterMap_cons,List.filterMap_nil,List.getElem?_cons_zero,List.getElem?_cons_succ,Option.map_some];(repeat ((first | (refine Ze (v:=?_) (by rfl) ?_ ?_;rotate_left;(focus (intro W hW;obtain ⟨s0,s1,s2,s3,s4,s5,s6,s7,s8,s9⟩:=hW;go_simp;try with_reducible rfl))) | refine Zd (by rfl) ?_);simp only [Act.put,pA,pB,pC]))
 refine Zc (λK hK=>?_);go_simp
 refine (HU1.out _).mono ?_;rintro r w4 ⟨rfl,hb4⟩;have HB4:=Ld (HD3.out.trans (hb4.mono HD3.out.size));refine hK _ _ (MqS.of B3.out D3.out (HB4.out.mono hg2)) ?_;clear hK K hb4 HD3;refine Zc (λK hK=>?_);go_simp
 refine (HU2.out _).mono ?_;rintro r w5 ⟨rfl,hb5⟩;have HB5:=Ld (HB4.out.trans (hb5.mono HB4.out.size));refine hK _ _ (MqS.of B3.out D3.out (HB5.out.mono hg2)) ?_;clear hK K hb5 HB4;refine Zc (λK hK=>?_);go_simp
 refine (HU3.out _).mono ?_;rintro r w6 ⟨rfl,hb6⟩;have HB6:=Ld (HB5.out.trans (hb6.mono HB5.out.size));refine hK _ _ (MqS.of B3.out D3.out (HB6.out.mono hg2)) ?_;clear hK K hb6 HB5;(repeat ((first | (refine Ze (v:=?_) (by rfl) ?_ ?_;rotate_left;(focus (intro W hW;obtain ⟨s0,s1,s2,s3,s4,s5,s6,s7,s8,s9⟩:=hW;go_simp;try with_reducible rfl))) | refine Zd (by rfl) ?_);simp only [Act.put,pA,pB,pC]))
 have R6:=Ld (R3.out.below HB6.out R3.out.lt);have rc:=R6.out.cell;have rf:=R6.out.frozen;have rl:=R6.out.lt;refine Zc (λK hK=>?_);go_simp
 refine hK _ _ ?_ ?_
 . refine MqS.of B3.out D3.out ?_;repeat (refine RowKit.Below.setCell ?_ (by simp) _)
   exact HB6.out.mono hg2
 clear hK K;(repeat ((first | (refine Ze (v:=?_) (by rfl) ?_ ?_;rotate_left;(focus (intro W hW;obtain ⟨s0,s1,s2,s3,s4,s5,s6,s7,s8,s9⟩:=hW;go_simp;try with_reducible rfl))) | refine Zd (by rfl) ?_);simp only [Act.put,pA,pB,pC]))
 refine Yj ?_;go_wp2_with fail
 have hsl:Ye w6 w6.heap.size A X:=(HS3.out.below HB6.out).more HB6.out.size;have hoff:Xu (λb=>b < w2.heap.size) w6 w6.heap.size A X:=λhne=>by
  obtain ⟨b,o,e,g1,g2⟩:=hsl hne;exact ⟨b,o,e,g1,by have:=H4.out b o e;omega,g2⟩
 refine bodyPost_ret (v:=.tuple #[.agg #[.string u1.ty,.string u1.id,.string u2.ty,.string u2.id,.string u3.ty,.string u3.id,.slice A X.length c],.nilIface]) (by simp [results,Tryz.results30,go_sem,rc]) rfl ⟨A,c,rfl,HL1.out,HL2.out,?_,?_⟩
 . refine (hoff.keep (λp hp hg=>?_) (by simp)).sl;have hg':¬p.block < w2.heap.size:=hg;have hn:w.heap.size+1+1≠p.block:=by have:=HG3.out;omega
   repeat rw [World.cell?_setCell_far _ _ _ _ hn]
 . have hfin:=HB3.out.trans (HB6.out.mono HB3.out.size);repeat (refine RowKit.Below.setCell ?_ (by simp;omega) _)
   exact hfin
end Go.Proofs.YtpheiojmcafolaaGreatDoor
