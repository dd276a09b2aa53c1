/-
 ARGUMENTS: strings in a reading; the reach of an argument. ARGUMENTS that are moves, opened.
-/
import Derived.Test.YtpheiojmcafolaaGreatDoorSz03
import Derived.Lib.Join
set_option maxRecDepth 100000
set_option maxHeartbeats 25600000
namespace Go.Proofs.YtpheiojmcafolaaGreatDoor
open Go.ChangeShapes Go.WideShapes Go.RowKit Go.Deep
def Zkh {H:Type}(s:ByteArray):DataW H:=.lit (.string s.data.toList)
theorem Zf9:Tryz.prog.cellsOf 3=1:=by kernel_rfl
theorem Zck:Tryz.prog.cellsOf 9=1:=by kernel_rfl
section
variable {H : Type}
theorem Xo {s:ByteArray}(h:s.data.toList.length<=reachBytes):s.size<=140737488351232:=by
 rw [<-ByteArray.toList_eq,Zk] at h;simpa only [reachBytes] using h
theorem Zex {ts:List TypeId}{ds:List (DataW H)}(h:(DataW.weightsEach Tryz.prog ts ds).all (·<=reachBytes)=true){j:Nat}{t:TypeId}{d:DataW H}(ht:ts[j]? = some t)(hd:ds[j]? = some d):∀n,n∈d.weights Tryz.prog t->n<=reachBytes:=λn hn=>by
 have:=List.all_eq_true.1 h n (DataW.weights_mem_each ht hd n hn);simpa using this
end
def Zj0 {H:Type}(m:Mv):DataW H:=.agg [.lit (.int .i64 m.what),Zkh m.fr,Zkh m.to_]
theorem Zp6:Tryz.prog.cellsOf 56=3:=by kernel_rfl
section
variable {H : Type} {enc : TypeId × Value -> H} {W : World}
theorem Zvv {base:Nat}{spare:Nat->Bool}{held:Bool}{n:Nat}{cs:List Value}{y:DataW H × List MemPlace}(h:DataW.trod enc Tryz.prog W base spare held n 56 cs=some y) :
 ∃m:Mv,cs = [.int .i64 m.what,.string m.fr,.string m.to_]/\y.1=Zj0 m:=by
 obtain ⟨xs,m,_,hy,hlen,hxl,hf⟩:=DataW.trod_struct Tryz.underlying56 h;rw [Zp6] at hlen;match cs,hlen with
 | [c0,c1,c2],_=>
  match xs,hxl with
  | [y0,y1,y2],_=>
   have e0:DataW.trod enc Tryz.prog W base spare held m 3 (([c0,c1,c2].drop 0).take (Tryz.prog.cellsOf 3))=some y0:=hf 0 _ rfl;have e1:DataW.trod enc Tryz.prog W base spare held m 9 (([c0,c1,c2].drop 1).take (Tryz.prog.cellsOf 9))=some y1:=hf 1 _ rfl;have e2:DataW.trod enc Tryz.prog W base spare held m 9 (([c0,c1,c2].drop 2).take (Tryz.prog.cellsOf 9))=some y2:=hf 2 _ rfl;simp only [Zck,Zf9,List.drop_zero,List.drop_succ_cons,List.take_succ_cons,List.take_zero] at e0 e1 e2;obtain ⟨a0,q0,r0,_⟩:=DataW.trod_int Tryz.underlying3 e0;obtain ⟨a1,q1,r1,_⟩:=DataW.trod_string Tryz.underlying9 e1;obtain ⟨a2,q2,r2,_⟩:=DataW.trod_string Tryz.underlying9 e2;simp only [List.cons.injEq,and_true] at q0 q1 q2;subst q0 q1 q2 r0 r1 r2;exact ⟨⟨a0,a1,a2⟩,rfl,by rw [hy];rfl⟩
theorem Zv4 {b0:Nat}{v:Value}{d:DataW H}{p:List MemPlace}(hv:Value.okWide Tryz.prog W .any b0 56 v)(h:DataW.Trod enc Tryz.prog W 0 (λ_=>true) true 56 v d p) :
 ∃m:Mv,v=.agg #[.int .i64 m.what,.string m.fr,.string m.to_]/\d=Zj0 m:=by
 obtain ⟨cs,rfl,hsz⟩:=okWide_struct Tryz.underlying56 hv;obtain ⟨l⟩:=cs;obtain ⟨fuel,hf⟩:=h;obtain ⟨m,h1,h2⟩:=Zvv hf;refine ⟨m,?_,h2⟩;simp only [Value.cells] at h1;subst h1;rfl
theorem Zqw {m:Mv}(h:∀n,n∈(Zj0 m:DataW H).weights Tryz.prog 56->n<=reachBytes):MvZ m:=
 ⟨Xo (h _ (by simp [Zj0,Zkh,DataW.weights,Tryz.underlying56,DataW.weightsEach])),Xo (h _ (by simp [Zj0,Zkh,DataW.weights,Tryz.underlying56,DataW.weightsEach]))⟩
theorem Zyv:Tryz.prog.readableRec 56=true:=by kernel_rfl
theorem Z1t:56 < Tryz.prog.types.size:=of_decide_eq_true (by kernel_rfl)
end
end Go.Proofs.YtpheiojmcafolaaGreatDoor
namespace Go.Proofs.YtpheiojmcafolaaGreatDoor
open Go.RowKit
def Z21 (c:UInt8):Bool:=Zd9 (c.toNat:Int)
def Z5k (c:UInt8):Bool:=Jp (c.toNat:Int)
inductive Wd where
 | bad (k:Int)
 | ok (kind:Int) (t:List UInt8) (n:Nat)
def Z55 (l:List UInt8):Wd:=
 if 19 < ((l.takeWhile Z21).dropWhile (· == 48)).length then .bad 4
 else .ok 2 (if ((l.takeWhile Z21).dropWhile (· == 48)) = [] then [48] else (l.takeWhile Z21).dropWhile (· == 48)) (l.takeWhile Z21).length
def Zzz (kind:Int)(l:List UInt8)(x:Nat):Wd:=
 if Zf (l.takeWhile Qo)=0 then .ok kind (l.takeWhile Qo) ((l.takeWhile Qo).length+x) else .bad (Zf (l.takeWhile Qo))
def Z5j:List UInt8->List UInt8->Nat->Wd
 | [],_,_=>.bad 1
 | c :: r,acc,n=>
  if c=34 then (if 60 < acc.length then .bad 4 else .ok 3 acc (n+1))
  else if c=92 then
   match r with
   | []=>.bad 1
   | d :: r'=>if d=34\/d=92 then Z5j r' (acc ++ [d]) (n+2) else .bad 1
  else if Zbu c then Z5j r (acc ++ [c]) (n+1) else .bad 1
def Z5r (a:UInt8):Bool:=a==40 || a==41 || a==91 || a==93 || a==123 || a==125 || a==44 || a==46 || a==33 || a==43 || a==45 || a==42
def Z0w:List UInt8->List UInt8
 | []=>[]
 | a :: r=>
  if Z5r a then [a]
  else if a=58 then (if r.head? = some 58 then [58,58] else [58])
  else if a=60 then (if r.head? = some 61 then [60,61] else [60])
  else if (a=61\/a=38\/a=124)/\r.head? = some a then [a,a]
  else []
def Z5u (l:List UInt8):Wd:=
 match l with
 | []=>.bad 1
 | c :: r=>
  if Z21 c then Z55 l
  else if Z5k c then Zzz 1 l 0
  else if c=34 then Z5j r [] 1
  else if c=63 then Zzz 4 r 1
  else if Z0w l = [] then .bad 1 else .ok 5 (Z0w l) (Z0w l).length
structure Tk where
 kind:Int
 s:ByteArray
 at_:Int
def Zsz (l:List UInt8):ByteArray:=⟨l.toArray⟩
def Zw7:Nat->List UInt8->Nat->List Tk->List Tk × Nat × Int
 | 0,_,_,acc=>(acc,0,0)
 | f+1,l,i,acc=>
  match l with
  | []=>(acc,0,0)
  | c :: r=>
   if c=32 then Zw7 f r (i+1) acc
   else match Z5u l with
    | .bad k=>([],i,k)
    | .ok kind t n=>if acc.length=300 then ([],i,4) else Zw7 f (l.drop n) (i+n) (acc ++ [⟨kind,Zsz t,i⟩])
def Zq7 (l:List UInt8)(i:Nat)(acc:List Tk):List Tk × Nat × Int:=Zw7 l.length l i acc
theorem Znr (r:List UInt8)(i:Nat)(acc:List Tk):Zq7 (32 :: r) i acc=Zq7 r (i+1) acc:=by
 unfold Zq7;rw [List.length_cons,Zw7,if_pos rfl]
theorem Z0x (acc:List Tk):∀(l:List UInt8) (i:Nat),Zq7 l i acc=Zq7 (l.drop (l.takeWhile λc=>(c.toNat:Int)==32).length) (i+(l.takeWhile λc=>(c.toNat:Int)==32).length) acc:=by
 intro l;induction l with
 | nil=>intro i;rfl
 | cons c r ih=>
  intro i;by_cases hc:c=32
  . subst hc;rw [List.takeWhile_cons_of_pos (by decide),List.length_cons,List.drop_succ_cons,Znr,ih (i+1)];congr 1;omega
  . rw [List.takeWhile_cons_of_neg (by
     simp only [beq_iff_eq];intro h;exact hc (UInt8.toNat_inj.1 (by have:(32:UInt8).toNat=32:=rfl;omega)))]
    rfl
def Zhd (b:UInt8):Bool:=b==34 || b==92
def Zk9 (b:UInt8):List UInt8:=if Zhd b then [92,b] else [b]
def Ji (l:List UInt8):List UInt8:=l.flatMap Zk9
def Uf (l:List UInt8):Nat:=l.countP Zhd
theorem Zet (l:List UInt8):(Ji l).length=l.length+Uf l:=by
 induction l with
 | nil=>rfl
 | cons b l ih=>
  simp only [Ji,List.flatMap_cons,List.length_append,Uf,List.countP_cons,List.length_cons] at ih ⊢;rw [ih];unfold Zk9;cases h:Zhd b <;> simp <;> omega
theorem Zvo (l:List UInt8)(b:UInt8):Ji (l ++ [b])=Ji l++Zk9 b:=by simp [Ji]
theorem K3 (l:List UInt8)(b:UInt8):Uf (l ++ [b])=Uf l+if Zhd b then 1 else 0:=by
 simp [Uf,List.countP_append,List.countP_cons]
theorem Zu4 (l:List UInt8)(h:Uf l=0):Ji l=l:=by
 induction l with
 | nil=>rfl
 | cons b l ih=>
  simp only [Uf,List.countP_cons] at h ih;have hb:Zhd b=false:=by cases hq:Zhd b <;> simp [hq] at h ⊢
  show Zk9 b++Ji l=_;rw [ih (by omega),Zk9,if_neg (by simp [hb])];rfl
theorem Zrh (l:List UInt8):Lib.countByte l 34+Lib.countByte l 92=Uf l:=by
 unfold Lib.countByte Uf;induction l with
 | nil=>rfl
 | cons b l ih=>
  simp only [List.count_cons,List.countP_cons,Zhd];by_cases h1:b=34
  . subst h1;simp;omega
  . by_cases h2:b=92
    . subst h2;simp;omega
    . simp [h1,h2];exact ih
theorem Zh8 (l:List UInt8):Uf l<=l.length:=List.countP_le_length
theorem Zar (b:UInt8):Zhd b=true ↔ (b.toNat=34\/b.toNat=92):=by
 simp only [Zhd,Bool.or_eq_true,beq_iff_eq];constructor
 . rintro (h | h) <;> subst h <;> simp
 . rintro (h | h)
   . exact .inl (UInt8.toNat_inj.1 (by rw [h];rfl))
   . exact .inr (UInt8.toNat_inj.1 (by rw [h];rfl))
theorem Zvl (l:List UInt8)(k:Nat):(Ji (l.take k)).length<=l.length+Uf l:=by
 rw [<-Zet];have h:Ji l=Ji (l.take k)++Ji (l.drop k):=by unfold Ji;rw [<-List.flatMap_append,List.take_append_drop]
 rw [h,List.length_append];omega
def byC (l:List UInt8):List Value:=l.map λb=>.int .u8 (b.toNat:Int)
theorem Zdw (a b:List UInt8):byC (a++b)=byC a++byC b:=by simp [byC]
theorem Z03 (a:List UInt8):(byC a).length=a.length:=by simp [byC]
def Zbz (l:List UInt8):List UInt8:=if Yi l=0 then 34 :: (Ji l ++ [34]) else []
theorem Zq5 (l:List UInt8):(Ji l).length<=2*l.length:=by have:=Zet l;have:=Zh8 l;omega
theorem Zqn (l:List UInt8):(Zbz l).length<=122:=by
 unfold Zbz;split
 . rename_i h;unfold Yi at h;split at h
   . cases h
   . have:=Zq5 l;simp only [List.length_cons,List.length_append,List.length_nil];omega
 . simp
end Go.Proofs.YtpheiojmcafolaaGreatDoor
