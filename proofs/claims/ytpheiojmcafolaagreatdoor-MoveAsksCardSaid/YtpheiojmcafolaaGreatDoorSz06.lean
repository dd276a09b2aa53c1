/-
 PLAIN: uids whose strings are no longer than a string may be.
-/
import Derived.Test.YtpheiojmcafolaaGreatDoorSz05
import Derived.Maps.AppendAt
import Derived.Laws.AppendOwnNone
set_option maxRecDepth 100000
set_option maxHeartbeats 25600000
namespace Go.Proofs.YtpheiojmcafolaaGreatDoor
open Go.RowKit Go.Sort
def Km (u:Ud):Prop:=u.ty.size<=140737488351232/\u.id.size<=140737488351232
end Go.Proofs.YtpheiojmcafolaaGreatDoor
namespace Go.Proofs.YtpheiojmcafolaaGreatDoor
open Go.RowKit
theorem Zwo (l:List UInt8):(Zsz l).toList=l:=by rw [ByteArray.toList_eq];rfl
theorem Z1f (l:List UInt8):(Zsz l).size=l.length:=by rw [<-Zk,Zwo]
theorem Zt1 {p:UInt8->Bool}:∀l:List UInt8,l.all p=true->l.takeWhile p=l
 | [],_=>rfl
 | c :: r,h=>by
  simp only [List.all_cons,Bool.and_eq_true] at h;rw [List.takeWhile_cons_of_pos h.1,Zt1 r h.2]
theorem Zmd {l:List UInt8}(h:Zf l=0):l.takeWhile Qo=l/\l.length<=20/\∃c r,l=c :: r/\Z5k c=true:=by
 cases l with
 | nil=>cases h
 | cons c r=>
  have e:Zf (c :: r)=if Jp (c.toNat:Int)=false then 1 else if (c :: r).all Qo=false then 1 else if 20 < (c :: r).length then 4 else 0:=rfl;rw [e] at h;split at h
  . cases h
  . split at h
    . cases h
    . split at h
      . cases h
      . rename_i h1 h2 h3;refine ⟨?_,by omega,c,r,rfl,by simpa [Z5k] using h1⟩;exact Zt1 _ (Bool.of_not_eq_false h2)
end Go.Proofs.YtpheiojmcafolaaGreatDoor
namespace Go.Proofs.YtpheiojmcafolaaGreatDoor
open Go.RowKit Go.Sort
def Zec (u:Ud):List UInt8:=if Zw u=0 then u.ty.toList++58 :: 58 :: Zbz u.id.toList else []
theorem Zy1 (s:ByteArray)(l:List UInt8):Zsz (s.toList++58 :: 58 :: l)=s++⟨#[58,58]⟩++Zsz l:=by
 apply ByteArray.ext;rw [ByteArray.toList_eq,ByteArray.data_append,ByteArray.data_append];apply Array.toList_inj.1;rw [Array.toList_append,Array.toList_append];show s.data.toList++58 :: 58 :: l=_;rw [List.append_assoc];rfl
theorem Zh6 (l:List UInt8):encStr l=.string (Zsz l):=rfl
set_option maxRecDepth 100000 in
theorem Uw (u:Ud)(w:World)(hu:Km u) :
 Calls Tryz.prog 57 #[.agg #[.string u.ty,.string u.id]] w λe w'=>e=.returned (.tuple #[encStr (Zec u),Yh (Zw u)])/\Below w.heap.size w w':=by
 have HN:=Ld (λW=>Yw u.ty W hu.1);have HQ:=Ld (λW=>Zp7 u.id W hu.2);by_cases hn:Zf u.ty.toList=0
 . by_cases ht:Yi u.id.toList=0
   . have HV:Hid (Zw u=0):=(by show _=_;rw [Zw,if_pos hn,ht]);have HL:Hid (Zec u=u.ty.toList++58 :: 58 :: Zbz u.id.toList):=(by show _=_;rw [Zec,if_pos HV.out]);have hz:u.ty.size<=20:=(by have:=(Zmd hn).2.1;rwa [Zk] at this);have hqz:(Zsz (Zbz u.id.toList)).size<=122:=(by rw [Z1f];exact Zqn _);rw [hn] at HN;rw [ht] at HQ;clear hn ht;generalize hq:Zsz (Zbz u.id.toList)=qs at hqz;have HQS:=Ld hq;rw [Zh6,hq] at HQ;clear hq;go_enter Tryz.func57,Tryz.ntmps57
     go_wp2_with fail
     refine (HN.out _).mono ?_;rintro e w1 ⟨rfl,hb1⟩;obtain ⟨hcc,hff⟩:=Xi hb1;have hlt1:w.heap.size < w1.heap.size:=(by have:=hb1.size;simp at this;omega);have hb0:Below w.heap.size w w1:=((Below.refl _ _).alloc (nL _) _).trans (hb1.mono (by simp));clear hb1;rw [Zv];go_wp2_with fail
     refine (HQ.out _).mono ?_;rintro e w2 ⟨rfl,hb2⟩;rw [Zv];have hb02:Below w.heap.size w w2:=hb0.trans (hb2.mono hb0.size);obtain ⟨hcc2,hff2⟩:=Xi hb2;have hlt2:w.heap.size < w2.heap.size:=Nat.lt_of_lt_of_le hlt1 hb2.size;clear hb2;go_wp2_with fail
     go_ret2
     refine ⟨?_,hb02⟩;rw [HL.out,HV.out,Zv,Zh6,<-HQS.out,Zy1];rfl
   . have HV:Hid (Zw u=Yi u.id.toList):=(by show _=_;rw [Zw,if_pos hn]);have hw:Zec u = []:=(by rw [Zec,if_neg (by rw [HV.out];exact ht)]);rw [hn] at HN;have hne:(Yi u.id.toList != 0)=true:=(by simp [ht]);have HW:=Ld hw;clear hn ht hw;go_enter Tryz.func57,Tryz.ntmps57
     go_wp2_with fail
     refine (HN.out _).mono ?_;rintro e w1 ⟨rfl,hb1⟩;obtain ⟨hcc,hff⟩:=Xi hb1;have hlt1:w.heap.size < w1.heap.size:=(by have:=hb1.size;simp at this;omega);have hb0:Below w.heap.size w w1:=((Below.refl _ _).alloc (nL _) _).trans (hb1.mono (by simp));clear hb1;rw [Zv];go_wp2_with fail
     refine (HQ.out _).mono ?_;rintro e w2 ⟨rfl,hb2⟩;go_wp2_with fail
     go_ret2
     exact ⟨by rw [HV.out,HW.out];rfl,hb0.trans (hb2.mono hb0.size)⟩
 . have HV:Hid (Zw u=Zf u.ty.toList):=by show _=_;rw [Zw,if_neg hn]
   have hw:Zec u = []:=by rw [Zec,if_neg (by rw [HV.out];exact hn)]
   have hne:(Zf u.ty.toList != 0)=true:=by simp [hn]
   have HW:=Ld hw;clear hn hw;go_enter Tryz.func57,Tryz.ntmps57
   go_wp2_with fail
   refine (HN.out _).mono ?_;rintro e w1 ⟨rfl,hb1⟩;obtain ⟨hcc,hff⟩:=Xi hb1;have hlt1:w.heap.size < w1.heap.size:=by have:=hb1.size;simp at this;omega
   have hb0:Below w.heap.size w w1:=((Below.refl _ _).alloc (nL _) _).trans (hb1.mono (by simp));clear hb1;go_wp2_with fail
   go_ret2
   exact ⟨by rw [HV.out,HW.out];rfl,hb0⟩
end Go.Proofs.YtpheiojmcafolaaGreatDoor
namespace Go.Proofs.YtpheiojmcafolaaGreatDoor
open Go.RowKit
def ScZ (s:Sc):Prop:=s.ty.size<=140737488351232/\Km s.uid
def scV (s:Sc)(b:Bool):Int:=if Vv s b=true then 0 else 1
def Qh (s:Sc)(b:Bool):Prop:=∀w:World,Calls Tryz.prog 91 #[.agg #[.int .i64 s.op,.string s.ty,.string s.uid.ty,.string s.uid.id],.bool b] w λe w'=>e=.returned (Yh (scV s b))/\Below w.heap.size w w'
set_option maxRecDepth 100000 in
theorem Zp9 (s:Sc)(b:Bool)(h0:s.op=0):Qh s b:=by
 intro w;rw [h0];go_enter Tryz.func91,Tryz.ntmps91
 go_wp2_with fail
 all_goals (go_ret;refine ⟨?_,by (repeat (first | assumption | exact bR | apply bD | apply Za | refine bA ?_ _))⟩;simp_all [scV,Vv,V2,emp,Yh])
set_option maxRecDepth 100000 in
theorem Zqk (s:Sc)(b:Bool)(h0:s.op=5\/s.op=6):Qh s b:=by
 intro w;cases b with
 | true=>
  rcases h0 with h0 | h0
  . rw [h0];go_enter Tryz.func91,Tryz.ntmps91
    go_wp2_with fail
    all_goals (go_ret;refine ⟨?_,by (repeat (first | assumption | exact bR | apply bD | apply Za | refine bA ?_ _))⟩;simp_all [scV,Vv,V2,emp,Yh])
  . rw [h0];go_enter Tryz.func91,Tryz.ntmps91
    go_wp2_with fail
    all_goals (go_ret;refine ⟨?_,by (repeat (first | assumption | exact bR | apply bD | apply Za | refine bA ?_ _))⟩;simp_all [scV,Vv,V2,emp,Yh])
 | false=>
  rcases h0 with h0 | h0
  . rw [h0];go_enter Tryz.func91,Tryz.ntmps91
    go_wp2_with fail
    all_goals (go_ret;refine ⟨?_,by (repeat (first | assumption | exact bR | apply bD | apply Za | refine bA ?_ _))⟩;simp_all [scV,Vv,V2,emp,Yh])
  . rw [h0];go_enter Tryz.func91,Tryz.ntmps91
    go_wp2_with fail
    all_goals (go_ret;refine ⟨?_,by (repeat (first | assumption | exact bR | apply bD | apply Za | refine bA ?_ _))⟩;simp_all [scV,Vv,V2,emp,Yh])
theorem U8 (w:World)(O P:Obj):Below w.heap.size w ((w.alloc O).alloc P):=by (repeat (first | assumption | exact bR | apply bD | apply Za | refine bA ?_ _))
set_option maxRecDepth 100000 in
theorem Zrn (s:Sc)(b:Bool)(h0:s.op=1\/s.op=2)(hz:ScZ s):Qh s b:=by
 intro w;have HW:=Ld (λW=>Uw s.uid W hz.2);clear hz;by_cases he:Zw s.uid=0
 . have hne:(Zw s.uid != 0)=false:=by simp [he]
   rcases h0 with h0 | h0
   . rw [h0];go_enter Tryz.func91,Tryz.ntmps91
     go_wp2_with fail
     . refine (HW.out _).mono ?_;rintro e w1 ⟨rfl,hb1⟩;have hb:=(U8 w _ _).trans (hb1.mono (by simp;omega));clear hb1;go_wp2_with fail
       go_ret
       refine ⟨?_,hb⟩;simp_all [scV,Vv,emp,Yh,Qz]
     all_goals (go_ret;refine ⟨?_,by (repeat (first | assumption | exact bR | apply bD | apply Za | refine bA ?_ _))⟩;simp_all [scV,Vv,emp,Yh,Qz])
   . rw [h0];go_enter Tryz.func91,Tryz.ntmps91
     go_wp2_with fail
     . refine (HW.out _).mono ?_;rintro e w1 ⟨rfl,hb1⟩;have hb:=(U8 w _ _).trans (hb1.mono (by simp;omega));clear hb1;go_wp2_with fail
       go_ret
       refine ⟨?_,hb⟩;simp_all [scV,Vv,emp,Yh,Qz]
     all_goals (go_ret;refine ⟨?_,by (repeat (first | assumption | exact bR | apply bD | apply Za | refine bA ?_ _))⟩;simp_all [scV,Vv,emp,Yh,Qz])
 . have hne:(Zw s.uid != 0)=true:=by simp [he]
   rcases h0 with h0 | h0
   . rw [h0];go_enter Tryz.func91,Tryz.ntmps91
     go_wp2_with fail
     . refine (HW.out _).mono ?_;rintro e w1 ⟨rfl,hb1⟩;have hb:=(U8 w _ _).trans (hb1.mono (by simp;omega));clear hb1;go_wp2_with fail
       go_ret
       refine ⟨?_,hb⟩;simp_all [scV,Vv,emp,Yh,Qz]
     all_goals (go_ret;refine ⟨?_,by (repeat (first | assumption | exact bR | apply bD | apply Za | refine bA ?_ _))⟩;simp_all [scV,Vv,emp,Yh,Qz])
   . rw [h0];go_enter Tryz.func91,Tryz.ntmps91
     go_wp2_with fail
     . refine (HW.out _).mono ?_;rintro e w1 ⟨rfl,hb1⟩;have hb:=(U8 w _ _).trans (hb1.mono (by simp;omega));clear hb1;go_wp2_with fail
       go_ret
       refine ⟨?_,hb⟩;simp_all [scV,Vv,emp,Yh,Qz]
     all_goals (go_ret;refine ⟨?_,by (repeat (first | assumption | exact bR | apply bD | apply Za | refine bA ?_ _))⟩;simp_all [scV,Vv,emp,Yh,Qz])
set_option maxRecDepth 100000 in
theorem Zq8 (s:Sc)(b:Bool)(h0:s.op=3)(hz:ScZ s):Qh s b:=by
 intro w;have HW:=Ld (λW=>Yw s.ty W hz.1);clear hz;by_cases he:Zf s.ty.toList=0
 . have hne:(Zf s.ty.toList != 0)=false:=by simp [he]
   . rw [h0];go_enter Tryz.func91,Tryz.ntmps91
     go_wp2_with fail
     . refine (HW.out _).mono ?_;rintro e w1 ⟨rfl,hb1⟩;have hb:=(U8 w _ _).trans (hb1.mono (by simp;omega));obtain ⟨hcc,hff⟩:=Xi hb1;have hlt1:w.heap.size+1 < w1.heap.size:=(by have:=hb1.size;simp at this;omega);have hlt0:w.heap.size < w1.heap.size:=(by omega);clear hb1;go_wp2_with fail
       go_ret
       refine ⟨?_,hb⟩;simp_all [scV,Vv,V2,emp,Yh]
     all_goals (go_ret;refine ⟨?_,by (repeat (first | assumption | exact bR | apply bD | apply Za | refine bA ?_ _))⟩;simp_all [scV,Vv,V2,emp,Yh])
 . have hne:(Zf s.ty.toList != 0)=true:=by simp [he]
   . rw [h0];go_enter Tryz.func91,Tryz.ntmps91
     go_wp2_with fail
     . refine (HW.out _).mono ?_;rintro e w1 ⟨rfl,hb1⟩;have hb:=(U8 w _ _).trans (hb1.mono (by simp;omega));obtain ⟨hcc,hff⟩:=Xi hb1;have hlt1:w.heap.size+1 < w1.heap.size:=(by have:=hb1.size;simp at this;omega);have hlt0:w.heap.size < w1.heap.size:=(by omega);clear hb1;go_wp2_with fail
       go_ret
       refine ⟨?_,hb⟩;simp_all [scV,Vv,V2,emp,Yh]
     all_goals (go_ret;refine ⟨?_,by (repeat (first | assumption | exact bR | apply bD | apply Za | refine bA ?_ _))⟩;simp_all [scV,Vv,V2,emp,Yh])
set_option maxRecDepth 100000 in
theorem Zr4 (s:Sc)(b:Bool)(h0:s.op=4)(hz:ScZ s):Qh s b:=by
 intro w;have HW:=Ld (λW=>Yw s.ty W hz.1);have HU:=Ld (λW=>Uw s.uid W hz.2);clear hz;by_cases he:Zf s.ty.toList=0
 . have hne:(Zf s.ty.toList != 0)=false:=by simp [he]
   rw [h0];go_enter Tryz.func91,Tryz.ntmps91
   go_wp2_with fail
   refine (HW.out _).mono ?_;rintro e w1 ⟨rfl,hb1⟩;have hb:=(U8 w _ _).trans (hb1.mono (by simp;omega));obtain ⟨hcc,hff⟩:=Xi hb1;have hlt1:w.heap.size+1 < w1.heap.size:=by have:=hb1.size;simp at this;omega
   have hlt0:w.heap.size < w1.heap.size:=by omega
   clear hb1;go_wp2_with fail
   refine (HU.out _).mono ?_;rintro e w2 ⟨rfl,hb2⟩;have hb':=hb.trans (hb2.mono (by omega));clear hb2;by_cases hu:Zw s.uid=0
   . have hun:(Zw s.uid != 0)=false:=(by simp [hu]);go_wp2_with fail
     go_ret
     refine ⟨?_,hb'⟩;simp_all [scV,Vv,Yh,Qz]
   . have hun:(Zw s.uid != 0)=true:=(by simp [hu]);go_wp2_with fail
     go_ret
     refine ⟨?_,hb'⟩;simp_all [scV,Vv,Yh,Qz]
 . have hne:(Zf s.ty.toList != 0)=true:=by simp [he]
   . rw [h0];go_enter Tryz.func91,Tryz.ntmps91
     go_wp2_with fail
     . refine (HW.out _).mono ?_;rintro e w1 ⟨rfl,hb1⟩;have hb:=(U8 w _ _).trans (hb1.mono (by simp;omega));clear hb1;go_wp2_with fail
       go_ret
       refine ⟨?_,hb⟩;simp_all [scV,Vv,Yh,Qz]
     all_goals (go_ret;refine ⟨?_,by (repeat (first | assumption | exact bR | apply bD | apply Za | refine bA ?_ _))⟩;simp_all [scV,Vv,V2,emp,Yh,Qz])
set_option maxRecDepth 100000 in
theorem Zrw (s:Sc)(b:Bool)(h0:¬s.op=0)(h1:¬s.op=1)(h2:¬s.op=2)(h3:¬s.op=3)(h4:¬s.op=4)(h5:¬s.op=5)(h6:¬s.op=6):Qh s b:=by
 intro w;have hv:scV s b=1:=by simp [scV,Vv,h0,h1,h2,h3,h4,h5,h6]
 have t0:(s.op==0)=false:=by simp [h0]
 have t1:(s.op==1)=false:=by simp [h1]
 have t2:(s.op==2)=false:=by simp [h2]
 have t3:(s.op==3)=false:=by simp [h3]
 have t4:(s.op==4)=false:=by simp [h4]
 have t5:(s.op==5)=false:=by simp [h5]
 have t6:(s.op==6)=false:=by simp [h6]
 clear h0 h1 h2 h3 h4 h5 h6;rw [hv];clear hv;go_enter Tryz.func91,Tryz.ntmps91
 go_wp2_with fail
 go_ret
 exact ⟨rfl,by (repeat (first | assumption | exact bR | apply bD | apply Za | refine bA ?_ _))⟩
theorem Zf6 (s:Sc)(b:Bool)(hz:ScZ s):Qh s b:=by
 by_cases h0:s.op=0
 . exact Zp9 s b h0
 by_cases h1:s.op=1\/s.op=2
 . exact Zrn s b h1 hz
 by_cases h3:s.op=3
 . exact Zq8 s b h3 hz
 by_cases h4:s.op=4
 . exact Zr4 s b h4 hz
 by_cases h5:s.op=5\/s.op=6
 . exact Zqk s b h5
 exact Zrw s b h0 (λh=>h1 (.inl h)) (λh=>h1 (.inr h)) h3 h4 (λh=>h5 (.inl h)) (λh=>h5 (.inr h))
theorem Za1 (s:ByteArray)(j:Nat)(hj:j < s.size)(W:World):(Instr.index 9 (.string s) (.int .i64 (j:Int))).run Tryz.prog W=.ok (.int .u8 (s[j].toNat:Int)) W:=by
 go_simp
theorem Ztk {c d:UInt8}(h:c=d):((c.toNat:Int)==(d.toNat:Int))=true:=by rw [h];simp
theorem Ze8 {c d:UInt8}(h:¬c=d):((c.toNat:Int)==(d.toNat:Int))=false:=by
 simp only [beq_eq_false_iff_ne,ne_eq];intro hh;exact h (UInt8.toNat_inj.1 (by omega))
theorem Zfq (s:ByteArray)(k:Nat)(h:k < s.size):s.toList.drop k=s[k] :: s.toList.drop (k+1):=by
 have h2:k < s.toList.length:=by rw [Zk];exact h
 have h1:s.toList[k]=s[k]:=by
  have:=Ub s k h;rw [gE h2] at this;exact Option.some.inj this
 rw [List.drop_eq_getElem_cons h2,h1]
def Zdn (e:List Nd)(v:Option Nat)(i rb:Nat)(A:Option Addr)(c:Nat)(w:World)(r:Ending)(w':World):Prop:=
 (∀j,v=some j->∃A' c',r=.returned (.slice A' (piece e i j).length c')/\Ye w' rb A' (piece e i j)/\Blk w' rb 160 (rdr A e.length c j)/\Yk w.heap.size rb w w') /\
 (v=none->r=.panicked Zr9/\Yk w.heap.size rb w w')
theorem Zdn.no {e:List Nd}{v:Option Nat}{i rb:Nat}{A:Option Addr}{c:Nat}{w w':World}(hv:v=none)(ho:Yk w.heap.size rb w w'):Zdn e v i rb A c w (.panicked Zr9) w':=
 ⟨λj hj=>(by rw [hv] at hj;cases hj),λ_=>⟨rfl,ho⟩⟩
def Z5c (wr:World)(rb:Nat)(k:Nat)(last:Option (List Nd))(v:Value):Prop:=
 match last with
 | none=>k=0
 | some l=>0 < k/\l.length<=9223372036854775807/\∃A c,v=.slice A l.length c/\Ye wr rb A l
set_option maxRecDepth 100000 in
theorem Zyy (e:List Nd)(f i:Nat)(x:Nd)(hx:e[i]? = some x)(hsh:Zj x=true)(hop:x.op=5)(ih:∀f',f'<=f->∀i',Zbw e f' i'):Zbw e (f+1) i:=by
 intro w rb A c hf hi hc hcm hok hblk hsl;have hrb:=hblk.lt;have k0:w.cell? ⟨rb,0,none⟩=some (.slice A e.length c):=hblk.cell 0;have k1:w.cell? ⟨rb,1,none⟩=some (.int .i64 i):=hblk.cell 1;have z1:w.frozen? ⟨rb,1,none⟩=false:=hblk.frozen 1;have hil:i < e.length:=(List.getElem?_eq_some_iff.1 hx).1;obtain ⟨b,o,rfl,hb,hcs⟩:=hsl.at_ hil;obtain ⟨d0,d1,d2,d3⟩:=hcs i x hx;obtain ⟨hxs,hxt⟩:=hok x (mG hx);have hbw:b < w.heap.size:=by omega
 have HX:=Ld hx;have HB:=Ld hblk;have HS:=Ld hsl;have HOK:=Ld hok;clear hx hblk hsl hcs hok;have HV:Hid (vGo e (f+1) .one i=vGo e f (.set x.n.toNat none) (i+1)):=by
  have hn:=HX.out;show _=_;simp [vGo,hn,hsh,hop]
 have hxn:0<=x.n:=by simp [Zj,hop] at hsh;omega
 obtain ⟨N,hN⟩:=Int.eq_ofNat_of_zero_le hxn;have HN:=Ld hN;have HI:=Ld ih;have p5:(x.op==5)=true:=by simp [hop]
 clear hop ih hN;rw [show x.n=(N:Int) from HN.out] at d1;have hsh2:Zj ⟨x.op,(N:Int),x.s,x.t⟩=true:=by have:=HN.out;simp only [<-this];exact hsh
 have hdl:decide (e.length<=i)=false:=by simp;omega
 suffices hw:Calls Tryz.prog 96 #[.pointer (some ⟨rb,0,none⟩)] w (Zdn e (vGo e (f+1) .one i) i rb (some ⟨b,o,none⟩) c w) from
  ⟨λj hj=>hw.mono λ_ _ p=>p.1 j hj,λhn=>hw.mono λ_ _ p=>p.2 hn⟩
 go_enter Tryz.func96,Tryz.ntmps96
 go_wp2_with (go_at_call 129;refine (J5 x.op _ x.s x.t _ hxs hxt).mono ?_;rintro r w1 ⟨rfl,hb1⟩;obtain ⟨hcc,hff⟩:=Xi hb1;have g1:rb < w1.heap.size:=Nat.lt_of_lt_of_le hrb hb1.size)
 have o1:Yk w.heap.size rb w w1:=Yk.of_below hb1 (nL _);have hz1:=hb1.size;have hilN:i+1<=e.length:=by omega
 go_loopw [5,53] (λlast kk wr=>∃(k c2 fk a:Nat) (l:Option (List Nd)),kk=.int .i64 k/\k+c2=N/\i+1<=a/\a<=e.length/\k<=a/\fk<=f/\2*(e.length - a)+1<=fk /\
  Hid (vGo e f (.set N none) (i+1)=vGo e fk (.set c2 l) a)/\Hid (Z5c wr rb k l last)/\Hid (Blk wr rb 160 (rdr (some ⟨b,o,none⟩) e.length c a))/\Yk w.heap.size rb w wr)
  (λ_ kk _=>N - (intOf kk).toNat)
 case atStart=>
  refine ⟨0,N,f,i+1,none,rfl,by omega,by omega,by omega,by omega,by omega,by omega,rfl,rfl,?_,?_⟩
  . exact (Zcb (HB.out.below hb1 hrb)).alloc _
  . (repeat (first | assumption | exact Yk.refl _ _ _ | apply Yk.drew | apply Yk.drewN | (refine Yk.alloc ?_ (by first | exact nL _ | omega | (simp;done) | (simp;omega)) _) | (refine Yk.setCell ?_ (by first | exact .inl rfl | exact .inr (nL _) | exact .inr (by first | omega | (simp;omega))) _)))
 case round=>
  obtain ⟨k,c2,fk,a,l,rfl,hkc,hia,hal,hka,hff2,hfk,HK,HL,HBr,hor⟩:=hrel;clear hcc hff;have q0:wr.cell? ⟨rb,0,none⟩=some (.slice (some ⟨b,o,none⟩) e.length c):=HBr.out.cell 0;have q1:wr.cell? ⟨rb,1,none⟩=some (.int .i64 a):=HBr.out.cell 1;have hrw:=HBr.out.lt;by_cases hkN:k < N
  . obtain ⟨c3,rfl⟩:∃c3,c2=c3+1:=⟨c2 - 1,by omega⟩;obtain ⟨fk2,rfl⟩:∃fk2,fk=fk2+1:=⟨fk - 1,by omega⟩;have hpo:=HI.out fk2 (by omega) a wr rb (some ⟨b,o,none⟩) c (by omega) hal hc hcm HOK.out HBr.out (HS.out.only hor (Nat.le_of_lt hrb));have HP:=Ld hpo;clear hpo;cases hv:vGo e fk2 .one a with
    | none=>
     have HVN:Hid (vGo e (f+1) .one i=none):=by
      show _=_;rw [HV.out,show x.n.toNat=N from by rw [HN.out];rfl,HK.out];simp [vGo,hv]
     have HPN:=Ld (HP.out.2 hv);clear hv HP;go_wp2_with (go_at_call 96;refine HPN.out.mono ?_;rintro r w2 ⟨rfl,ho2⟩)
     exact ⟨rfl,Zdn.no HVN.out (hor.trans (ho2.mono hor.size))⟩
    | some j=>
     obtain ⟨hjl,_,haj⟩:=X1 e fk2 .one a j hv;have hjl:=hjl hal;have haj:=haj rfl;have hpl:=Zy2 e a j;have HPS:=Ld (HP.out.1 j hv);by_cases hk0:k=0
     . subst hk0;have hln:l=none:=by
        have:=HL.out;cases l with
        | none=>rfl
        | some ll=>have:=this.1;omega
       have HK2:Hid (vGo e f (.set N none) (i+1)=vGo e fk2 (.set c3 (some (piece e a j))) j):=by
        show _=_;rw [HK.out,hln];simp [vGo,hv,Zkl]
       clear hv HP hln;go_wp2_with (go_at_call 96;refine HPS.out.mono ?_;rintro r w2 ⟨A',c',rfl,hs2,hb2,ho2⟩)
       go_roundw
       case rel=>exact ⟨1,c3,fk2,j,some (piece e a j),by go_num,by omega,by omega,by omega,by omega,by omega,by omega,HK2,⟨by omega,by omega,A',c',rfl,hs2⟩,hb2,hor.trans (ho2.mono hor.size)⟩
       case measure=>simp [intOf];omega
     . have hls:∃ll,l=some ll/\ll.length<=9223372036854775807/\∃A c,u5=.slice A ll.length c/\Ye wr rb A ll:=by
        have:=HL.out;cases l with
        | none=>exact absurd this hk0
        | some ll=>exact ⟨ll,rfl,this.2⟩
       obtain ⟨ll,hl,hlb,A1,c1,hu5,hs1⟩:=hls;subst hl hu5;have HS1:=Ld hs1;clear hs1;by_cases hlate:0<=Zz ll (piece e a j)
       . have HVN:Hid (vGo e (f+1) .one i=none):=by
          show _=_;rw [HV.out,show x.n.toNat=N from by rw [HN.out];rfl,HK.out];simp [vGo,hv,Zkl,hlate]
         clear hv HP;go_wp2_with (first
          | (go_at_call 96;refine HPS.out.mono ?_;rintro r w2 ⟨A',c',rfl,hs2,hb2,ho2⟩)
          | (go_at_call 130;refine (Zfw A1 _ _ _ ll (piece e a j) _ ((HS1.out.only ho2 (Nat.le_of_lt hrw)).more (Nat.le_of_lt hb2.lt)) (hs2.more (Nat.le_of_lt hb2.lt)) hlb (by omega)).mono ?_;rintro r w3 ⟨rfl,hb3⟩))
         exact ⟨rfl,Zdn.no HVN.out ((hor.trans (ho2.mono hor.size)).trans (Yk.of_below hb3 (Nat.le_trans hor.size ho2.size)))⟩
       . have HK2:Hid (vGo e f (.set N none) (i+1)=vGo e fk2 (.set c3 (some (piece e a j))) j):=by
          show _=_;rw [HK.out];simp [vGo,hv,Zkl,hlate]
         clear hv HP;go_wp2_with (first
          | (go_at_call 96;refine HPS.out.mono ?_;rintro r w2 ⟨A',c',rfl,hs2,hb2,ho2⟩)
          | (go_at_call 130;refine (Zfw A1 _ _ _ ll (piece e a j) _ ((HS1.out.only ho2 (Nat.le_of_lt hrw)).more (Nat.le_of_lt hb2.lt)) (hs2.more (Nat.le_of_lt hb2.lt)) hlb (by omega)).mono ?_;rintro r w3 ⟨rfl,hb3⟩))
         have ho3:=(hor.trans (ho2.mono hor.size)).trans (Yk.of_below (g:=rb) hb3 (Nat.le_trans hor.size ho2.size));go_roundw
         case rel=>exact ⟨k+1,c3,fk2,j,some (piece e a j),by go_num,by omega,by omega,by omega,by omega,by omega,by omega,HK2,⟨by omega,by omega,A',c',rfl,hs2.keep (λp hp=>hb3.cell (by have:=hb2.lt;omega))⟩,hb2.below hb3 hb2.lt,ho3⟩
         case measure=>simp [intOf];omega
  . obtain rfl:c2=0:=(by omega);obtain rfl:k=N:=(by omega);have HVS:Hid (vGo e (f+1) .one i=some a):=by
     show _=_;rw [HV.out,show x.n.toNat=k from by rw [HN.out];rfl,HK.out];cases fk <;> simp [vGo]
    go_wp2_with fail
    go_quiet (fail)
    go_wp2
    go_ret
    refine ⟨λj hj=>?_,λhn=>by have:=HVS.out;rw [hn] at this;cases this⟩;obtain rfl:a=j:=(by have:=HVS.out;rw [hj] at this;injection this with this;exact this.symm);refine ⟨some ⟨b,o+i*4,none⟩,c - i,by rw [Zfj hal];rfl,?_,?_,?_⟩
    . exact ((HS.out.piece i a).only (hor.drewN _) (Nat.le_of_lt hrb))
    . exact HBr.out.drewN _
    . exact hor.drewN _
end Go.Proofs.YtpheiojmcafolaaGreatDoor
namespace Go.Proofs.YtpheiojmcafolaaGreatDoor
section
variable {P : Program} {ops : Array Oper} {Q : Exit -> Act -> World -> Prop} {S : World -> Prop}
def pre (n k:Nat):Array Bool:=(List.replicate k true++List.replicate (n - k) false).toArray
theorem Zcg {n k:Nat}(h:k<=n):(pre n k).size=n:=by simp [pre];omega
theorem Ztl {n k:Nat}(h:k<=n)(i:Nat)(hi:i < n):(pre n k)[i]'(by rw [Zcg h];exact hi)=decide (i < k):=by
 simp only [pre,List.getElem_toArray];by_cases hik:i < k
 . rw [List.getElem_append_left (by simpa using hik)];simp [hik]
 . rw [List.getElem_append_right (by simpa using hik)];simp [hik]
theorem Ztr {n k:Nat}(h:k < n):(pre n k).setIfInBounds k true=pre n (k+1):=by
 apply Array.ext
 . rw [Array.size_setIfInBounds,Zcg (by omega),Zcg (by omega)]
 . intro i h1 h2;rw [Zcg (by omega)] at h2;rw [Array.getElem_setIfInBounds,Ztl (by omega) i h2,Ztl (by omega) i h2]
   . by_cases hik:k=i
     . subst hik;simp
     . simp [hik];omega
   . rw [Zcg (by omega)];exact h2
theorem Zxi (n:Nat):Array.replicate n false=pre n 0:=by simp [pre]
def Zse (ops:Array Oper)(fl:List Bool):Bool:=
 Region.noSelect ops && (Region.ready .any ops (pre ops.size ops.size)).isEmpty && fl.length==ops.size &&
 (List.range ops.size).all λk=>match fl[k]? with
  | some true=>Region.ready .any ops (pre ops.size k) == [k]
  | _=>Region.free .any ops (pre ops.size k) k && (Region.ready .any ops (pre ops.size k)).contains k
def Zhe (P:Program)(ops:Array Oper)(Q:Exit->Act->World->Prop)(S:World->Prop):List (Oper × Bool)->Act->World->Prop
 | [],a,w=>Q .normal a w
 | (o,false) :: rest,a,w=>∃v,YieldsIf P ops S o v a/\Zhe P ops Q S rest (a.put o.dst v) w
 | (o,true) :: rest,a,w=>∀K:Act->World->Prop,(∀a w,S w->Zhe P ops Q S rest a w->K a w)->if Region.wanted o (yielded ops a.tmps)=true then Oper.wp P o a w K Q else K (a.put o.dst undef) w
theorem Yj {a:Act}{w:World}(h:Q .normal a w):Zhe P ops Q S [] a w:=h
theorem Ze {o:Oper}{v:Value}{rest:List (Oper × Bool)}{a:Act}{w:World}(hw:Region.wanted o (yielded ops a.tmps)=true)
 (hy:∀w,S w->(execOp a.eval o).run P w=.ok (.value v) w) (h:Zhe P ops Q S rest (a.put o.dst v) w):Zhe P ops Q S ((o,false) :: rest) a w:=
 ⟨v,.inl ⟨hw,hy⟩,h⟩
theorem Zd {o:Oper}{rest:List (Oper × Bool)}{a:Act}{w:World}(hw:Region.wanted o (yielded ops a.tmps)=false)
 (h:Zhe P ops Q S rest (a.put o.dst undef) w):Zhe P ops Q S ((o,false) :: rest) a w:=⟨undef,.inr ⟨hw,rfl⟩,h⟩
theorem Zc {o:Oper}{rest:List (Oper × Bool)}{a:Act}{w:World}
 (h:∀K:Act->World->Prop,(∀a w,S w->Zhe P ops Q S rest a w->K a w)->if Region.wanted o (yielded ops a.tmps)=true then Oper.wp P o a w K Q else K (a.put o.dst undef) w) :
 Zhe P ops Q S ((o,true) :: rest) a w:=h
theorem Zur {l:List Oper}{fl:List Bool}(hok:Zse l.toArray fl=true)(hQ:∀c (d:Tmp) v a w,Q (.panic c) (Act.put a (some d) v) w->Q (.panic c) a w) :
 ∀(m k:Nat) (a:Act) (w:World),k+m=l.length->S w->Zhe P l.toArray Q S ((l.zip fl).drop k) a w->wpAnyH P .any l.toArray Q S m (pre l.length k) a w:=by
 have hok':=hok;unfold Zse at hok';simp only [Bool.and_eq_true,List.all_eq_true,List.mem_range,List.size_toArray,beq_iff_eq,List.isEmpty_iff] at hok';obtain ⟨⟨⟨hsel,hend⟩,hlen⟩,hall⟩:=hok';intro m;induction m with
 | zero=>
  intro k a w hk _ h;obtain rfl:k=l.length:=by omega
  rw [List.drop_eq_nil_of_le (by rw [List.length_zip];omega)] at h;exact ⟨hend,h⟩
 | succ m ih=>
  intro k a w hk hS h;have hkl:k < l.length:=by omega
  have hkf:k < fl.length:=by omega
  rw [List.drop_eq_getElem_cons (by simp;omega)] at h;simp only [List.getElem_zip] at h;have hi:l.toArray[k]? = some l[k]:=by simp [hkl]
  have hc:=hall k hkl;rw [gE hkf] at hc;cases hf:fl[k] with
  | false=>
   rw [hf] at h hc;obtain ⟨v,hy,hr⟩:=h;simp only [Bool.and_eq_true] at hc;exact wpAnyH_take hi hsel hc.1 hc.2 (λc a w q=>by
    cases hd:l[k].dst with
    | none=>rw [hd] at q;exact q
    | some d=>rw [hd] at q;exact hQ c _ _ a w q) hy hS (by rw [Ztr hkl];exact ih (k+1) _ w (by omega) hS hr)
  | true=>
   rw [hf] at h hc;have hc:Region.ready .any l.toArray (pre l.length k) = [k]:=(by simpa using hc);refine wpAnyH_ready hc (by simp) (AllReadyH.cons hi (λK' hK=>h K' (λa' w' hS' hr=>hK.out a' w' hS' (λ_=>?_))) AllReadyH.nil);rw [Ztr hkl];exact ih (k+1) a' w' (by omega) hS' hr
theorem Yg {l:List Oper}(fl:List Bool){id:Nat}{a:Act}{w:World}(hm:P.follows .mixedOrders=true)(hok:Zse l.toArray fl=true)
 (hQ:∀c (d:Tmp) v a w,Q (.panic c) (Act.put a (some d) v) w->Q (.panic c) a w) (hS:S w.drew) (h:S w.drew->Zhe P l.toArray Q S (l.zip fl) a w.drew):(Code.region id l.toArray true).wp P Q a w:=
 wp_region_held_drew (S:=S) hm hS (λ_=>by
  rw [List.size_toArray,Zxi];exact Zur hok hQ l.length 0 a w.drew (by omega) hS (by simpa using h hS))
end
section
variable {P : Program} {ops : Array Oper} {Q : Exit -> Act -> World -> Prop} {S : World -> Prop}
theorem Ug {o:Oper}{rest:List (Oper × Bool)}{a:Act}{w:World}(hw:Region.wanted o (yielded ops a.tmps)=true)(s x:Operand)(t:TypeId)
 (ho:o.op=.call { callee:=.builtin .append,args:=#[s,x],argTypes:=#[t,t] })
 (base:Nat) (e:TypeId) (i:TypeInfo) (z:Value) (size bytes:Nat) (ht:P.underlying t=some (.slice e)) (hi:P.info? e=some i) (hz:i.zero=some z)
 (hsize:i.size=size) (hby:i.bytes=bytes) (hzs:z.cells.size=size) (hsz:0 < size)
 (v:Value) (n:Nat) (xs:List Value) (hs:a.eval s=v) (hown:w.ownsRow base e size v n xs)
 (ad:Addr) (m c:Nat) (news:List Value) (hx:a.eval x=.slice (some ad) m c) (hl:news.length=m*size) (hnews:∀j u,news[j]? = some u->w.cell? (ad.add j)=some u) (h1:∀u∈news,u.oneCell'=true)
 (h63:n+m<=maxLen) (hbytes:(n+m)*bytes<=140737488355328) (hbase:base<=w.heap.size)
 (h:∀v' w',w'.ownsRow base e size v' (n+m) (xs++news)->w.grownBy w' v.ownBlock->(v'=.slice none 0 0 ↔ v=.slice none 0 0/\m=0)->(v'.ownBlock=v.ownBlock\/v'.ownBlock=some w.heap.size)->S w'/\Zhe P ops Q S rest (a.put o.dst v') w') :
 Zhe P ops Q S ((o,true) :: rest) a w:=by
 refine Zc (λK hK=>?_);rw [if_pos hw];obtain ⟨v',w',hr,h2,h3,h4,h5⟩:=run_append_own_at (P:=P) w base t o.type e i z size bytes ht hi hz hsize hby hzs hsz v n xs hown ad m c news hl hnews h1 h63 hbytes hbase;unfold Oper.wp execOp;simp only [ho,resolve,invoke,builtin,Sem.run_bind,Sem.run_pure,Result.andThen_ok,List.map_toArray,List.map_cons,List.map_nil,hs,hx,hr];exact hK _ _ (h v' w' h2 h3 h4 h5).1 (h v' w' h2 h3 h4 h5).2
end
theorem Zg1 {P:Program}{w:World}(base:Nat)(t ty e:TypeId)(i:TypeInfo)(size:Nat)(ht:P.underlying t=some (.slice e))(hi:P.info? e=some i)
 (v:Value) (n:Nat) (xs:List Value) (hown:w.ownsRow base e size v n xs) (c:Nat) :
 (Builtin.append_ #[t,t] ty #[v,.slice none 0 c]).run P w=.ok v w:=by
 rcases hown.2 with ⟨rfl,rfl⟩ | ⟨g,cap,cur,rfl,_,_,hnc,_⟩
 . simp [Builtin.append_,run_underlying ht,sizeOf,typeInfo,hi,Builtin.lenOf,Builtin.firstCells]
 . simp [Builtin.append_,run_underlying ht,sizeOf,typeInfo,hi,Builtin.lenOf,Builtin.firstCells,hnc,storeCells]
theorem Ut {P:Program}{w:World}{ops:Array Oper}{rest:List Oper}{o:Oper}{a:Act}{Q:Exit->Act->World->Prop}(hgd:o.guard=none)(s x:Operand)(t:TypeId)
 (ho:o.op=.call { callee:=.builtin .append,args:=#[s,x],argTypes:=#[t,t] })
 (base:Nat) (e:TypeId) (i:TypeInfo) (size:Nat) (ht:P.underlying t=some (.slice e)) (hi:P.info? e=some i)
 (v:Value) (n:Nat) (xs:List Value) (hs:a.eval s=v) (hown:w.ownsRow base e size v n xs) (c:Nat) (hx:a.eval x=.slice none 0 c)
 (h:wpList P ops Q rest (a.put o.dst v) w):wpList P ops Q (o :: rest) a w:=by
 refine wpList_plain hgd λK hK=>?_;have hrun:=Zg1 (P:=P) (w:=w) base t o.type e i size ht hi v n xs hown c;unfold Oper.wp;simp [execOp,ho,resolve,invoke,builtin,hs,hx,hrun,Result.andThen];exact hK _ _ h
end Go.Proofs.YtpheiojmcafolaaGreatDoor
