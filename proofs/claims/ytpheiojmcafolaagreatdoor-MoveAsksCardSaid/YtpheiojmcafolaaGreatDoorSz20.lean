/-
 errors.As at the target *api.Errno: the model's entries for internal/reflectlite at this program's types (turned from the worked ToyasAs). errors.As at the target *api.Errno: Set, and the walk (turned from the worked ToyasAs).
-/
import Derived.LaidEql
import Derived.Stop.Asserts
import Derived.RowKitTokens
import Derived.Test.YtpheiojmcafolaaGreatDoorSz06
set_option maxRecDepth 100000
set_option maxHeartbeats 25600000
namespace Go.Proofs.YtpheiojmcafolaaGreatDoor
open Go.RowKit Go.Extern.Stop Go.Stop Go.Extern
theorem Tryz.valueOfP (t:Addr)(w:World):(ReflectliteValue.unpack (.iface 202 (.pointer (some t)))).run Tryz.prog w
 = .ok (.agg #[.pointer (some ⟨2,202,none⟩),.pointer (some ⟨w.heap.size,0,none⟩),.int .u64 150]) (w.alloc (.cells #[.pointer (some t)] 202)):=by kernel_rfl
theorem Tryz.typeP (a:Addr)(w:World):(ReflectliteValue.methodAny (ReflectliteValue.valueError "reflectlite.Value.Type" 0) (λt _ _ _=>ReflectliteType.toType t) #[.agg #[.pointer (some ⟨2,202,none⟩),.pointer (some a),.int .u64 150]]).run Tryz.prog w
 = .ok (.iface 285 (.agg #[.pointer (some ⟨2,202,none⟩)])) w:=by kernel_rfl
theorem Tryz.kindP (w:World):((ReflectliteType.abiMethod λt=>(λa:Nat=>Value.int IntKind.u8 (a:Int)) <$> Rtype.kind t) #[.pointer (some ⟨2,202,none⟩)]).run Tryz.prog w=.ok (.int .u8 22) w:=by kernel_rfl
theorem Tryz.kindE (w:World):((ReflectliteType.abiMethod λt=>(λa:Nat=>Value.int IntKind.u8 (a:Int)) <$> Rtype.kind t) #[.pointer (some ⟨2,96,none⟩)]).run Tryz.prog w=.ok (.int .u8 2) w:=by kernel_rfl
theorem rlm (z:Sem Value)(f:TypeId->Addr->Nat->Nat->Sem Value)(v:Value) :
 ReflectliteValue.method z f #[v]=(do match <-ReflectliteValue.parts v with | none=>z | some (t,a,fl)=>f t a fl (fl % 32)):=rfl
theorem Tryz.partsP (a:Addr)(w:World):(ReflectliteValue.parts (.agg #[.pointer (some ⟨2,202,none⟩),.pointer (some a),.int .u64 150])).run Tryz.prog w=.ok (some (202,a,150)) w:=by kernel_rfl
theorem Tryz.isNilP (a p:Addr)(W:World)(ha:W.cell? a=some (.pointer (some p))) :
 (ReflectliteValue.method (ReflectliteValue.valueError "reflectlite.Value.IsNil" 0) ReflectliteValue.isNil #[.agg #[.pointer (some ⟨2,202,none⟩),.pointer (some a),.int .u64 150]]).run Tryz.prog W=.ok (.bool false) W:=by
 rw [rlm];simp only [Sem.run_bind,Tryz.partsP,Result.andThen];simp [ReflectliteValue.isNil,loadVar,isAgg,underlying,Tryz.underlying202,ha,Result.andThen]
theorem Tryz.elemP (w:World):(ReflectliteType.method ReflectliteType.elem #[.agg #[.pointer (some ⟨2,202,none⟩)]]).run Tryz.prog w=.ok (.iface 285 (.agg #[.pointer (some ⟨2,96,none⟩)])) w:=by kernel_rfl
theorem Tryz.implementsE (w:World):(ReflectliteType.relation "Implements" ReflectliteType.implements_ #[.agg #[.pointer (some ⟨2,96,none⟩)],.iface 285 (.agg #[.pointer (some ⟨2,27,none⟩)])]).run Tryz.prog w=.ok (.bool true) w:=by kernel_rfl
theorem Tryz.typeOfE (v:Value)(w:World):(ReflectliteType.typeOf #[.iface 96 v]).run Tryz.prog w=.ok (.iface 285 (.agg #[.pointer (some ⟨2,96,none⟩)])) w:=by kernel_rfl
theorem Tryz.assignableE (w:World):(ReflectliteType.relation "AssignableTo" ReflectliteType.assignableTo #[.agg #[.pointer (some ⟨2,96,none⟩)],.iface 285 (.agg #[.pointer (some ⟨2,96,none⟩)])]).run Tryz.prog w=.ok (.bool true) w:=by kernel_rfl
theorem Tryz.valueOfE (k:Int)(w:World):(ReflectliteValue.unpack (.iface 96 (.int .i64 k))).run Tryz.prog w
 = .ok (.agg #[.pointer (some ⟨2,96,none⟩),.pointer (some ⟨w.heap.size,0,none⟩),.int .u64 130]) (w.alloc (.cells #[.int .i64 k] 96)):=by kernel_rfl
theorem Tryz.elemOfP (w:World):(Rtype.elem? 202).run Tryz.prog w=.ok (some 96) w:=by kernel_rfl
theorem Tryz.mkE (p:Addr)(w:World):(ReflectliteValue.mk 96 p ReflectliteValue.flagAddr).run Tryz.prog w=.ok (.agg #[.pointer (some ⟨2,96,none⟩),.pointer (some p),.int .u64 386]) w:=by kernel_rfl
theorem Tryz.elemVP (a p:Addr)(W:World)(ha:W.cell? a=some (.pointer (some p))) :
 (ReflectliteValue.method (ReflectliteValue.valueError "reflectlite.Value.Elem" 0) ReflectliteValue.elem #[.agg #[.pointer (some ⟨2,202,none⟩),.pointer (some a),.int .u64 150]]).run Tryz.prog W
  = .ok (.agg #[.pointer (some ⟨2,96,none⟩),.pointer (some p),.int .u64 386]) W:=by
 rw [rlm];simp only [Sem.run_bind,Tryz.partsP,Result.andThen];simp [ReflectliteValue.elem,loadVar,isAgg,underlying,Tryz.underlying202,ha,Result.andThen,Tryz.elemOfP,Tryz.mkE]
theorem rls (v x:Value):ReflectliteValue.set #[v,x]=(do
 let (some (dst,a,fl),some (src,b,_)):=(<-ReflectliteValue.parts v,<-ReflectliteValue.parts x)
  | unsupported (.noEntry "extern/(internal/reflectlite.Value).Set.zeroValue")
 if fl / ReflectliteValue.flagAddr % 2==0 then unsupported (.noEntry "extern/(internal/reflectlite.Value).Set.unaddressable")
 let val <-loadVar src b
 if <-Rtype.directlyAssignable dst src then storeVar dst a val
 else if <-Rtype.implements dst src then
  if (<-Rtype.kind src)==20 then
   match val with
   | .nilIface=>unsupported (.noEntry "extern/reflectlite: a nil value of one interface type handed on as a value of another")
   | _=>storeVar dst a val
  else storeVar dst a (.iface src val)
 else panicString ("reflectlite.Set: value of type " ++ (<-Rtype.spelt src) ++ " is not assignable to type " ++ (<-Rtype.spelt dst))
 pure (.tuple #[])):=rfl
theorem Tryz.partsEa (a:Addr)(w:World):(ReflectliteValue.parts (.agg #[.pointer (some ⟨2,96,none⟩),.pointer (some a),.int .u64 386])).run Tryz.prog w=.ok (some (96,a,386)) w:=by kernel_rfl
theorem Tryz.partsE (a:Addr)(w:World):(ReflectliteValue.parts (.agg #[.pointer (some ⟨2,96,none⟩),.pointer (some a),.int .u64 130])).run Tryz.prog w=.ok (some (96,a,130)) w:=by kernel_rfl
theorem Tryz.directE (w:World):(Rtype.directlyAssignable 96 96).run Tryz.prog w=.ok true w:=by kernel_rfl
theorem Tryz.setE (ta b:Addr)(k:Int)(old:Value)(W:World)(hb:W.cell? b=some (.int .i64 k))(ht:W.cell? ta=some old)(hf:W.frozen? ta=false) :
 (ReflectliteValue.set #[.agg #[.pointer (some ⟨2,96,none⟩),.pointer (some ta),.int .u64 386],.agg #[.pointer (some ⟨2,96,none⟩),.pointer (some b),.int .u64 130]]).run Tryz.prog W
  = .ok (.tuple #[]) (W.setCell ta (.int .i64 k)):=by
 rw [rls];simp only [Sem.run_bind,Tryz.partsEa,Tryz.partsE,Result.andThen];simp [ReflectliteValue.flagAddr,loadVar,isAgg,underlying,Tryz.underlying96,hb,Result.andThen,Tryz.directE,storeVar,Value.cells,storeCells,Addr.add];rw [run_store Tryz.prog W ta _ _ (by rfl)];simp [ht,hf]
theorem Tryz.methodKind (h:Value)(w:World):(Go.method 513 285 (.agg #[h]) "Kind").run Tryz.prog w=.ok (268,h) w:=by kernel_rfl
theorem Tryz.methodElem (h:Value)(w:World):(Go.method 513 285 (.agg #[h]) "Elem").run Tryz.prog w=.ok (278,.agg #[h]) w:=by kernel_rfl
theorem Tryz.methodImplements (h:Value)(w:World):(Go.method 513 285 (.agg #[h]) "Implements").run Tryz.prog w=.ok (279,.agg #[h]) w:=by kernel_rfl
theorem Tryz.methodAssignableTo (h:Value)(w:World):(Go.method 513 285 (.agg #[h]) "AssignableTo").run Tryz.prog w=.ok (276,.agg #[h]) w:=by kernel_rfl
set_option maxRecDepth 100000 in
theorem Z5b (k:Int)(t:Addr)(old:Value)(w:World)(hg:w.cell? ⟨0,0,none⟩=some (.iface 285 (.agg #[.pointer (some ⟨2,27,none⟩)])))(ht0:w.cell? t=some old)(hf0:w.frozen? t=false) :
 Calls Tryz.prog 142 #[.iface 96 (.int .i64 k),.iface 202 (.pointer (some t))] w λev w'=>ev=.returned (.bool true)/\w'=((((w.alloc (.cells #[.pointer (some t)] 202)).alloc (.cells #[.pointer (some ⟨2,202,none⟩),.pointer (some ⟨w.heap.size,0,none⟩),.int .u64 150] 256)).alloc (.cells #[.pointer (some ⟨2,202,none⟩),.pointer (some ⟨w.heap.size,0,none⟩),.int .u64 150] 256)).alloc (.cells #[.int .i64 k] 96)).setCell t (.int .i64 k):=by
 have h6:=@run_callFunc_extern Tryz.prog 171 _ (λargs=>ReflectliteValue.unpack (args.getD 0 (.tuple #[]))) Tryz.func171 (by kernel_rfl) (by kernel_rfl) (by kernel_rfl) (by kernel_rfl);have h7:=@run_callFunc_extern Tryz.prog 172 _ (ReflectliteValue.methodAny (ReflectliteValue.valueError "reflectlite.Value.Type" 0) (λt _ _ _=>ReflectliteType.toType t)) Tryz.func172 (by kernel_rfl) (by kernel_rfl) (by kernel_rfl) (by kernel_rfl);have h8:=@run_callFunc_extern Tryz.prog 173 _ (ReflectliteValue.method (ReflectliteValue.valueError "reflectlite.Value.IsNil" 0) ReflectliteValue.isNil) Tryz.func173 (by kernel_rfl) (by kernel_rfl) (by kernel_rfl) (by kernel_rfl);have h27:=@run_callFunc_extern Tryz.prog 268 _ (ReflectliteType.abiMethod λt=>do pure (.int .u8 (<-Rtype.kind t))) Tryz.func268 (by kernel_rfl) (by kernel_rfl) (by kernel_rfl) (by kernel_rfl);have h37:=@run_callFunc_extern Tryz.prog 278 _ (ReflectliteType.method ReflectliteType.elem) Tryz.func278 (by kernel_rfl) (by kernel_rfl) (by kernel_rfl) (by kernel_rfl);have h38:=@run_callFunc_extern Tryz.prog 279 _ (ReflectliteType.relation "Implements" ReflectliteType.implements_) Tryz.func279 (by kernel_rfl) (by kernel_rfl) (by kernel_rfl) (by kernel_rfl);have h10:=@run_callFunc_extern Tryz.prog 198 _ ReflectliteType.typeOf Tryz.func198 (by kernel_rfl) (by kernel_rfl) (by kernel_rfl) (by kernel_rfl);have h35:=@run_callFunc_extern Tryz.prog 276 _ (ReflectliteType.relation "AssignableTo" ReflectliteType.assignableTo) Tryz.func276 (by kernel_rfl) (by kernel_rfl) (by kernel_rfl) (by kernel_rfl);have h11:=@run_callFunc_extern Tryz.prog 199 _ (ReflectliteValue.method (ReflectliteValue.valueError "reflectlite.Value.Elem" 0) ReflectliteValue.elem) Tryz.func199 (by kernel_rfl) (by kernel_rfl) (by kernel_rfl) (by kernel_rfl);have h12:=@run_callFunc_extern Tryz.prog 200 _ ReflectliteValue.set Tryz.func200 (by kernel_rfl) (by kernel_rfl) (by kernel_rfl) (by kernel_rfl);have f6:=Tryz.valueOfP;have f7:=Tryz.typeP;have mK:=Tryz.methodKind;have mE:=Tryz.methodElem;have mI:=Tryz.methodImplements;have mA:=Tryz.methodAssignableTo;have k27:=Tryz.kindP;have k25:=Tryz.kindE;have e27:=Tryz.elemP;have i25:=Tryz.implementsE;have tO:=Tryz.typeOfE;have a25:=Tryz.assignableE;have v25:=Tryz.valueOfE;have n8:=Tryz.isNilP ⟨w.heap.size,0,none⟩ t ((w.alloc (.cells #[.pointer (some t)] 202)).alloc (.cells #[.pointer (some ⟨2,202,none⟩),.pointer (some ⟨w.heap.size,0,none⟩),.int .u64 150] 256)) (by simp);have hlt:0 < w.heap.size:=by
  rcases Nat.lt_or_ge 0 w.heap.size with h | h
  . exact h
  . simp [World.cell?,Array.getElem?_eq_none h] at hg
 have hg2:((w.alloc (.cells #[.pointer (some t)] 202)).alloc (.cells #[.pointer (some ⟨2,202,none⟩),.pointer (some ⟨w.heap.size,0,none⟩),.int .u64 150] 256)).cell? ⟨0,0,none⟩=some (.iface 285 (.agg #[.pointer (some ⟨2,27,none⟩)])):=by
  rw [World.cell?_alloc_lt _ _ ⟨0,0,none⟩ (by first | (simp;done) | (simp;omega)),World.cell?_alloc_lt _ _ ⟨0,0,none⟩ hlt];exact hg
 have htl:t.block < w.heap.size:=by
  rcases Nat.lt_or_ge t.block w.heap.size with h | h
  . exact h
  . simp [World.cell?,Array.getElem?_eq_none h] at ht0
 have el:=Tryz.elemVP ⟨w.heap.size,0,none⟩ t (((w.alloc (.cells #[.pointer (some t)] 202)).alloc (.cells #[.pointer (some ⟨2,202,none⟩),.pointer (some ⟨w.heap.size,0,none⟩),.int .u64 150] 256)).alloc (.cells #[.pointer (some ⟨2,202,none⟩),.pointer (some ⟨w.heap.size,0,none⟩),.int .u64 150] 256)) (by rw [World.cell?_alloc_lt _ _ ⟨w.heap.size,0,none⟩ (by simp;omega)];simp);have st:=Tryz.setE t ⟨w.heap.size+1+1+1,0,none⟩ k old ((((w.alloc (.cells #[.pointer (some t)] 202)).alloc (.cells #[.pointer (some ⟨2,202,none⟩),.pointer (some ⟨w.heap.size,0,none⟩),.int .u64 150] 256)).alloc (.cells #[.pointer (some ⟨2,202,none⟩),.pointer (some ⟨w.heap.size,0,none⟩),.int .u64 150] 256)).alloc (.cells #[.int .i64 k] 96))
  (by rw [World.cell?_alloc_at _ _ _ _ (by simp)] <;> rfl)
  (by rw [World.cell?_alloc_lt _ _ t (by simp;omega),World.cell?_alloc_lt _ _ t (by simp;omega),World.cell?_alloc_lt _ _ t (by simp;omega),World.cell?_alloc_lt _ _ t htl];exact ht0)
  (by rw [World.frozen?_alloc_old _ _ t (by simp;omega),World.frozen?_alloc_old _ _ t (by simp;omega),World.frozen?_alloc_old _ _ t (by simp;omega),World.frozen?_alloc_old _ _ t (Nat.ne_of_lt htl)];exact hf0)
 go_enter Tryz.func142,Tryz.ntmps142
 go_wp2
 refine wp_loop_rounds 1 ?_;rw [rounds_succ];go_wp2
 go_ret
 exact ⟨rfl,rfl⟩
end Go.Proofs.YtpheiojmcafolaaGreatDoor
namespace Go.Proofs.YtpheiojmcafolaaGreatDoor
open Go.RowKit
def Yy (w:World):Prop:=w.cell? ⟨0,0,none⟩=some (.iface 285 (.agg #[.pointer (some ⟨2,27,none⟩)]))
theorem Yy.lt {w:World}(h:Yy w):0 < w.heap.size:=by
 rcases Nat.lt_or_ge 0 w.heap.size with h' | h'
 . exact h'
 . unfold Yy at h;simp [World.cell?,Array.getElem?_eq_none h'] at h
theorem Yy.below {w w':World}{B:Nat}(h:Yy w)(hb:Below B w w')(hB:0 < B):Yy w':=(hb.cell (p:=⟨0,0,none⟩) hB).trans h
end Go.Proofs.YtpheiojmcafolaaGreatDoor
namespace Go.Proofs.YtpheiojmcafolaaGreatDoor
section
variable {P : Program} {ops : Array Oper} {Q : Exit -> Act -> World -> Prop} {S : World -> Prop}
def Zkn (ops:Array Oper):List (Nat × Bool)->Array Bool->Bool
 | [],d=>(Region.ready .any ops d).isEmpty
 | (i,true) :: r,d=>(Region.ready .any ops d == [i]) && Zkn ops r (d.setIfInBounds i true)
 | (i,false) :: r,d=>Region.free .any ops d i && (Region.ready .any ops d).contains i && Zkn ops r (d.setIfInBounds i true)
def Yl (l:List Oper)(L:List (Nat × Bool)):List (Oper × Bool):=L.filterMap λp=>(l[p.1]?).map λo=>(o,p.2)
theorem Zdx {l:List Oper}(hsel:Region.noSelect l.toArray=true)(hQ:∀c (d:Tmp) v a w,Q (.panic c) (Act.put a (some d) v) w->Q (.panic c) a w) :
 ∀(L:List (Nat × Bool)) (d:Array Bool) (a:Act) (w:World),(∀p∈L,p.1 < l.length)->Zkn l.toArray L d=true->S w->Zhe P l.toArray Q S (Yl l L) a w->wpAnyH P .any l.toArray Q S L.length d a w
 | [],d,a,w,_,hok,_,h=>⟨by simpa [Zkn] using hok,h⟩
 | (i,fl) :: r,d,a,w,hL,hok,hS,h=>by
  have hil:i < l.length:=hL (i,fl) (by simp);have hi:l.toArray[i]? = some l[i]:=by simp [hil]
  have hL':∀p∈r,p.1 < l.length:=λp hp=>hL p (by simp [hp]);have hc:Yl l ((i,fl) :: r)=(l[i],fl) :: Yl l r:=by simp [Yl,hil]
  rw [hc] at h;cases fl with
  | false=>
   simp only [Zkn,Bool.and_eq_true] at hok;obtain ⟨v,hy,hr⟩:=h;exact wpAnyH_take hi hsel hok.1.1 hok.1.2 (λc a w q=>by
    cases hd:l[i].dst with
    | none=>rw [hd] at q;exact q
    | some d=>rw [hd] at q;exact hQ c _ _ a w q) hy hS (Zdx hsel hQ r _ _ w hL' hok.2 hS hr)
  | true=>
   simp only [Zkn,Bool.and_eq_true,beq_iff_eq] at hok;refine wpAnyH_ready hok.1 (by simp) (AllReadyH.cons hi (λK' hK=>h K' (λa' w' hS' hr=>hK.out a' w' hS' (λ_=>?_))) AllReadyH.nil);exact Zdx hsel hQ r _ a' w' hL' hok.2 hS' hr
def Zz1 (ops:Array Oper)(L:List (Nat × Bool)):Bool:=Region.noSelect ops && L.all (λp=>decide (p.1 < ops.size)) && (L.length==ops.size) && Zkn ops L (Array.replicate ops.size false)
theorem Zg {l:List Oper}(L:List (Nat × Bool)){id:Nat}{a:Act}{w:World}(hm:P.follows .mixedOrders=true)(hok:Zz1 l.toArray L=true)
 (hQ:∀c (d:Tmp) v a w,Q (.panic c) (Act.put a (some d) v) w->Q (.panic c) a w) (hS:S w.drew) (h:S w.drew->Zhe P l.toArray Q S (Yl l L) a w.drew):(Code.region id l.toArray true).wp P Q a w:=
 wp_region_held_drew (S:=S) hm hS (λ_=>by
  unfold Zz1 at hok;simp only [Bool.and_eq_true,beq_iff_eq,List.all_eq_true,decide_eq_true_eq] at hok;obtain ⟨⟨⟨h1,h2⟩,h3⟩,h4⟩:=hok;have h5:=Zdx (P:=P) (S:=S) h1 hQ L (Array.replicate l.toArray.size false) a w.drew (λp hp=>by have:=h2 p hp;simpa using this) h4 hS (h hS);rw [h3] at h5;exact h5)
end
end Go.Proofs.YtpheiojmcafolaaGreatDoor
