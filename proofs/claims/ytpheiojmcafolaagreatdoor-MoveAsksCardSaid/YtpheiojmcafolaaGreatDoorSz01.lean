/-
 PLAIN WORDS: nodes as data, names and texts; small lemmas on endings, worlds and bytes. No program in sight. PLAIN WORDS: slices of nodes in memory; their order. PLAIN WORDS ON WORLDS: 'only one block, and what is new, has turned'; a block that is known whole. SLICES OF STRINGS in memory. PLAIN WORDS: slices of values of k cells each, in memory; rows of them that a call makes.
-/
import Derived.WalkKit
import Derived.WalkSpells
import Derived.WalkLawsBesides
import Derived.Lib.ConvBytes
import Derived.Lib.Hide
import Derived.Lib.Bytealg
import Derived.Deep.QuietTactic
import Derived.Sort.OwnSorted
import Derived.Laws.OwnMore
import Derived.Lib.IndexBytes
import Derived.Lib.SlicesCompact
import Derived.Lib.RowBridge
import Derived.Test.YtpheiojmcafolaaGreatDoorProg
import Derived.WideLaws
import Derived.KernelRfl
import Derived.Shelf.Strings.Builder1
import Derived.Shelf.Strings.Builder2
import Derived.Shelf.Small.Bits
import Derived.Shelf.Small.Strs
import Derived.Shelf.Small.Wraps
import Derived.Shelf.Strings.BuilderF
import Derived.Shelf.Strings.BuilderK
import Derived.Shelf.Utf8.RuneCount
import Derived.Shelf.Strings.Builder2Cap
import Derived.Shelf.Strconv.Itoa0
import Derived.Shelf.Strings.Search1
import Derived.Shelf.Strings.Search2
import Derived.Shelf.Strings.Search3
import Derived.Shelf.Strings.Count
import Derived.Shelf.LaysM
import Derived.Shelf.Strings.Shaped
import Derived.Shelf.Sort.Plain
import Derived.Shelf.Strings.Prefix
import Derived.Shelf.Strings.Split
import Derived.Shelf.Strings.RuneCount
import Derived.Shelf.Bits.Mul64
import Derived.Shelf.Slices.Turned
import Derived.Ground.Names2Prog
import Derived.Shelf.Slices.SearchI
import Derived.Shelf.Slices.In.SortNone
import Derived.Deep.RegionHeld3
set_option maxRecDepth 100000
set_option maxHeartbeats 25600000
namespace Go.Proofs.YtpheiojmcafolaaGreatDoor
open Go.RowKit
theorem bR {B:Nat}{w:World}:RowKit.Below B w w:=RowKit.Below.refl _ _
theorem bD {B:Nat}{w w':World}(h:RowKit.Below B w w'):RowKit.Below B w w'.drew:=h.drew
theorem bA {B:Nat}{w w':World}(h:RowKit.Below B w w')(o:Obj)(hs:B<=w'.heap.size:=by first | exact Nat.le_refl _ | omega | (simp;done) | (simp;omega)):RowKit.Below B w (w'.alloc o):=h.alloc hs o
theorem pA {α:Type}(l:List α)(i:Nat)(a:α):l.toArray.setIfInBounds i a=(l.set i a).toArray:=by simp
theorem pB {α:Type}(a b:α)(l:List α):(a :: l).set 0 b=b :: l:=rfl
theorem pC {α:Type}(a b:α)(l:List α)(n:Nat):(a :: l).set (n+1) b=a :: l.set n b:=rfl
theorem Ld {p:Prop}(h:p):Hid p:=Lib.hid h
theorem nL (n:Nat):n<=n:=Nat.le_refl n
theorem gE {α:Type}{l:List α}{i:Nat}(h:i < l.length):l[i]? = some l[i]:=List.getElem?_eq_getElem h
theorem mG {α:Type}{l:List α}{i:Nat}{a:α}(h:l[i]? = some a):a∈l:=List.mem_of_getElem? h
theorem gS {α:Type}{l:List α}{i:Nat}{a:α}:l[i]? = some a ↔ ∃h:i < l.length,l[i]=a:=List.getElem?_eq_some_iff
theorem Vj {a b:Bool}(h:a=b):Ending.returned (.bool a)=.returned (.bool b):=by rw [h]
theorem Xn {k:IntKind}{a b:Int}(h:a=b):Ending.returned (.int k a)=.returned (.int k b):=by rw [h]
theorem Ue {a b:Value}(h:a=b):Ending.returned a=.returned b:=by rw [h]
theorem Xi {W w1:World}(hb:Below W.heap.size W w1):(∀b o,b < W.heap.size->w1.cell? ⟨b,o,none⟩=W.cell? ⟨b,o,none⟩)/\(∀b o,b < W.heap.size->w1.frozen? ⟨b,o,none⟩=W.frozen? ⟨b,o,none⟩):=
 ⟨λb o h=>hb.cell (p:=⟨b,o,none⟩) h,λb o h=>hb.frozen (p:=⟨b,o,none⟩) h⟩
def Jp (b:Int):Bool:=(decide (97<=b) && decide (b<=122)) || (decide (65<=b) && decide (b<=90)) || b==95
def Zd9 (b:Int):Bool:=decide (48<=b) && decide (b<=57)
def Qo (c:UInt8):Bool:=Jp (c.toNat:Int) || Zd9 (c.toNat:Int)
def Zbu (c:UInt8):Bool:=decide (32<=(c.toNat:Int)) && decide ((c.toNat:Int)<=126)
def Zf (l:List UInt8):Int:=
 match l with
 | []=>1
 | c :: _=>if Jp (c.toNat:Int)=false then 1 else if l.all Qo=false then 1 else if 20 < l.length then 4 else 0
def Yi (l:List UInt8):Int:=if 60 < l.length then 4 else if l.all Zbu=false then 1 else 0
theorem Zk (s:ByteArray):s.toList.length=s.size:=by rw [ByteArray.toList_eq];exact Array.length_toList
theorem Ub (s:ByteArray)(j:Nat)(hj:j < s.size):s.toList[j]? = some s[j]:=by
 have hj':j < s.data.size:=hj;rw [ByteArray.toList_eq,Array.getElem?_toList,Array.getElem?_eq_getElem hj'];rfl
theorem Zii {s:ByteArray}(h:¬0 < s.size):s.toList = []:=by
 apply List.eq_nil_of_length_eq_zero;rw [Zk];omega
theorem Zb7 {s:ByteArray}(h:0 < s.size):∃l,s.toList=s[0] :: l:=by
 have h1:=Ub s 0 h;cases hd:s.toList with
 | nil=>rw [hd] at h1;simp at h1
 | cons a l=>rw [hd] at h1;simp at h1;exact ⟨l,by rw [h1]⟩
theorem Zks {s:ByteArray}(h:0 < s.size):s.toList.isEmpty=false:=by
 obtain ⟨l,e⟩:=Zb7 h;rw [e];rfl
theorem Ziz (l:List UInt8)(p:UInt8->Bool)(k:Nat)(c:UInt8)(h:(l.take k).all p=true)(hc:l[k]? = some c)(hp:p c=true):(l.take (k+1)).all p=true:=by
 rw [List.take_add_one,hc,List.all_append,h];simp [hp]
theorem Zm5 (l:List UInt8)(p:UInt8->Bool)(k:Nat)(c:UInt8)(hc:l[k]? = some c)(hp:p c=false):l.all p=false:=by
 rw [List.all_eq_false];exact ⟨c,mG hc,by simp [hp]⟩
theorem Zbk {P:Program}(w:World)(src dst e:TypeId)(s:ByteArray){u:TypeDesc}
 (hs:P.underlying src=some u) (hd:P.underlying dst=some (.slice e)) (he:P.underlying e=some (.int .u8)) :
 ∃cap w1,(convert src dst (.string s)).run P w=.ok (.slice (some ⟨w.heap.size,0,none⟩) s.size cap) w1 /\
  (∀j (hj:j < s.size),w1.cell? ⟨w.heap.size,j,none⟩=some (.int .u8 (s[j].toNat)))/\Below w.heap.size w w1:=by
 refine ⟨_,_,Lib.run_convert_string_bytes w src dst e s hs hd he,λj hj=>?_,?_⟩
 . rw [Lib.bytesWorld_cell w e s j hj];have:s.data.toList.getD j 0=s[j]:=by
    rw [<-ByteArray.toList_eq];simp only [List.getD,Ub s j hj];rfl
   rw [this]
 . exact ⟨rfl,rfl,rfl,by rw [Lib.bytesWorld_size];omega,λk hk=>Lib.bytesWorld_at_old w e s k hk⟩
structure Nd where
 op:Int
 n:Int
 s:ByteArray
 t:ByteArray
def Nd.cells (x:Nd):List Value:=[.int .i64 x.op,.int .i64 x.n,.string x.s,.string x.t]
def Zl (x:Nd):Int:=
 if x.op=1\/x.op=2\/x.op=3\/x.op=4\/x.op=8 then 0
 else if x.op=5\/x.op=6 then x.n
 else if x.op=7\/x.op=9\/x.op=10\/x.op=21\/x.op=22\/x.op=23\/x.op=24 then 1
 else if x.op=11\/x.op=12\/x.op=14\/x.op=15\/x.op=16\/x.op=17\/x.op=18\/x.op=19\/x.op=20\/x.op=25\/x.op=26\/x.op=27 then 2
 else if x.op=13 then 3 else -1
def Kk (l:List UInt8):Bool:=
 l == [105,102] || l == [116,104,101,110] || l == [101,108,115,101] || l == [116,114,117,101] || l == [102,97,108,115,101] || l == [105,110] || l == [104,97,115] || l == [108,105,107,101] || l == [105,115]
def Zj (x:Nd):Bool:=
 if x.op=1 then (x.n==0 || x.n==1) && x.s.toList.isEmpty && x.t.toList.isEmpty
 else if x.op=2 then x.s.toList.isEmpty && x.t.toList.isEmpty
 else if x.op=3 then x.n==0 && x.t.toList.isEmpty && Yi x.s.toList==0
 else if x.op=4 then x.n==0 && Zf x.s.toList==0 && Yi x.t.toList==0
 else if x.op=5\/x.op=6 then decide (0<=x.n) && x.s.toList.isEmpty && x.t.toList.isEmpty
 else if x.op=7 then x.n==0 && x.t.toList.isEmpty && Zf x.s.toList==0
 else false
def Zfa (a b:Int):Int:=if a < b then -1 else if b < a then 1 else 0
def orI:List Int->Int
 | []=>0
 | a :: l=>if a=0 then orI l else a
def Jn (x y:Nd):Int:=orI [Zfa x.op y.op,Zfa x.n y.n,Lib.compareBytes x.s.data.toList y.s.data.toList,Lib.compareBytes x.t.data.toList y.t.data.toList]
structure Jj (w:World)(b o:Nat)(x:Nd):Prop where
 c0:w.cell? ⟨b,o,none⟩=some (.int .i64 x.op)
 c1:w.cell? ⟨b,o+1,none⟩=some (.int .i64 x.n)
 c2:w.cell? ⟨b,o+2,none⟩=some (.string x.s)
 c3:w.cell? ⟨b,o+3,none⟩=some (.string x.t)
def Ye (w:World)(B:Nat)(A:Option Addr)(xs:List Nd):Prop:=
 xs≠[]->∃b o,A=some ⟨b,o,none⟩/\b < B/\∀i x,xs[i]? = some x->Jj w b (o+i*4) x
theorem Jj.keep {w w':World}{b o B:Nat}{x:Nd}(h:Jj w b o x)(hb:b < B)(hk:∀p:Addr,p.block < B->w'.cell? p=w.cell? p):Jj w' b o x:=
 ⟨(hk _ hb).trans h.c0,(hk _ hb).trans h.c1,(hk _ hb).trans h.c2,(hk _ hb).trans h.c3⟩
theorem Ye.keep {w w':World}{B:Nat}{A:Option Addr}{xs:List Nd}(h:Ye w B A xs)(hk:∀p:Addr,p.block < B->w'.cell? p=w.cell? p):Ye w' B A xs:=λhne=>by
 obtain ⟨b,o,e,hb,hc⟩:=h hne;exact ⟨b,o,e,hb,λi x hx=>(hc i x hx).keep hb hk⟩
theorem Ye.below {w w':World}{B:Nat}{A:Option Addr}{xs:List Nd}(h:Ye w B A xs)(hb:Below B w w'):Ye w' B A xs:=h.keep λ_ hp=>hb.cell hp
theorem Ye.more {w:World}{B B':Nat}{A:Option Addr}{xs:List Nd}(h:Ye w B A xs)(hB:B<=B'):Ye w B' A xs:=λhne=>by
 obtain ⟨b,o,e,hb,hc⟩:=h hne;exact ⟨b,o,e,Nat.lt_of_lt_of_le hb hB,hc⟩
theorem Ye.nil (w:World)(B:Nat)(A:Option Addr):Ye w B A []:=λh=>absurd rfl h
theorem Ye.at_ {w:World}{B:Nat}{A:Option Addr}{xs:List Nd}(h:Ye w B A xs){i:Nat}(hi:i < xs.length):∃b o,A=some ⟨b,o,none⟩/\b < B/\∀j x,xs[j]? = some x->Jj w b (o+j*4) x:=
 h (by intro e;subst e;simp at hi)
def Zz:List Nd->List Nd->Int
 | [],[]=>0
 | [],_ :: _=>-1
 | _ :: _,[]=>1
 | x :: xs,y :: ys=>if Jn x y=0 then Zz xs ys else Jn x y
def Y0 (e:List Nd):Prop:=∀x∈e,x.s.size<=140737488351232/\x.t.size<=140737488351232
structure Yk (B g:Nat)(w w':World):Prop where
 os:w'.os=w.os
 tape:w'.tape=w.tape
 output:w'.output=w.output
 size:w.heap.size<=w'.heap.size
 block:∀k,k < B->k≠g->w'.heap[k]? = w.heap[k]?
theorem Yk.refl (B g:Nat)(w:World):Yk B g w w:=⟨rfl,rfl,rfl,nL _,λ_ _ _=>rfl⟩
theorem Yk.trans {B g:Nat}{a b c:World}(h:Yk B g a b)(k:Yk B g b c):Yk B g a c:=
 ⟨k.os.trans h.os,k.tape.trans h.tape,k.output.trans h.output,Nat.le_trans h.size k.size,λi hi hn=>(k.block i hi hn).trans (h.block i hi hn)⟩
theorem Yk.mono {B B' g:Nat}{w w':World}(h:Yk B g w w')(hB:B'<=B):Yk B' g w w':=⟨h.os,h.tape,h.output,h.size,λk hk hn=>h.block k (Nat.lt_of_lt_of_le hk hB) hn⟩
theorem Yk.of_below {B B' g:Nat}{w w':World}(h:Below B w w')(hB:B'<=B):Yk B' g w w':=⟨h.os,h.tape,h.output,h.size,λk hk _=>h.block k (Nat.lt_of_lt_of_le hk hB)⟩
theorem Yk.below {B B' g:Nat}{w w':World}(h:Yk B g w w')(h1:B'<=B)(h2:B'<=g):Below B' w w':=⟨h.os,h.tape,h.output,h.size,λk hk=>h.block k (by omega) (by omega)⟩
theorem Yk.drew {B g:Nat}{a w:World}(h:Yk B g a w):Yk B g a w.drew:=⟨h.os,h.tape,h.output,h.size,h.block⟩
theorem Yk.drewN {B g:Nat}{a w:World}(h:Yk B g a w)(n:Nat):Yk B g a (w.drewN n):=⟨h.os,h.tape,h.output,h.size,h.block⟩
theorem Za {B:Nat}{a w:World}(h:Below B a w)(n:Nat):Below B a (w.drewN n):=⟨h.os,h.tape,h.output,h.size,h.block⟩
theorem Yk.alloc {B g:Nat}{a w:World}(h:Yk B g a w)(hB:B<=w.heap.size)(o:Obj):Yk B g a (w.alloc o):=
 h.trans ⟨rfl,rfl,rfl,by simp,λk hk _=>Below.heap_alloc _ _ _ (by omega)⟩
theorem Yk.setCell {B g:Nat}{a w:World}(h:Yk B g a w){p:Addr}(hp:p.block=g\/B<=p.block)(u:Value):Yk B g a (w.setCell p u):=
 h.trans ⟨rfl,rfl,rfl,by simp [World.setCell],λk hk hn=>Below.heap_setCell _ _ _ _ (by rintro rfl;rcases hp with h | h;exact hn h;omega)⟩
theorem Yk.cell {B g:Nat}{w w':World}(h:Yk B g w w'){p:Addr}(hp:p.block < B)(hn:p.block≠g):w'.cell? p=w.cell? p:=World.cell?_of_block (w:=w) (h.block p.block hp hn)
theorem Yk.frozen {B g:Nat}{w w':World}(h:Yk B g w w'){p:Addr}(hp:p.block < B)(hn:p.block≠g):w'.frozen? p=w.frozen? p:=World.frozen?_of_block (w:=w) (h.block p.block hp hn)
def Blk (w:World)(g:Nat)(t:TypeId)(cs:Array Value):Prop:=w.heap[g]? = some (.cells cs t (0,0))
theorem Blk.lt {w:World}{g:Nat}{t:TypeId}{cs:Array Value}(h:Blk w g t cs):g < w.heap.size:=by
 rcases Nat.lt_or_ge g w.heap.size with hlt | hge
 . exact hlt
 . unfold Blk at h;rw [Array.getElem?_eq_none hge] at h;cases h
theorem Blk.cell {w:World}{g:Nat}{t:TypeId}{cs:Array Value}(h:Blk w g t cs)(i:Nat):w.cell? ⟨g,i,none⟩=cs[i]?:=by
 unfold Blk at h;simp [World.cell?,h]
theorem Blk.frozen {w:World}{g:Nat}{t:TypeId}{cs:Array Value}(h:Blk w g t cs)(i:Nat):w.frozen? ⟨g,i,none⟩=false:=by
 unfold Blk at h;simp [World.frozen?,h]
theorem Blk.new (w:World)(t:TypeId)(cs:Array Value):Blk (w.alloc (.cells cs t)) w.heap.size t cs:=by
 show (w.heap.push _)[w.heap.size]? = _;simp
theorem Blk.drewN {w:World}{g:Nat}{t:TypeId}{cs:Array Value}(h:Blk w g t cs)(n:Nat):Blk (w.drewN n) g t cs:=h
theorem Blk.drew {w:World}{g:Nat}{t:TypeId}{cs:Array Value}(h:Blk w g t cs):Blk w.drew g t cs:=h
theorem Blk.alloc {w:World}{g:Nat}{t:TypeId}{cs:Array Value}(h:Blk w g t cs)(o:Obj):Blk (w.alloc o) g t cs:=(Below.heap_alloc w o g h.lt).trans h
theorem Blk.set {w:World}{g:Nat}{t:TypeId}{cs:Array Value}(h:Blk w g t cs)(i:Nat)(u:Value):Blk (w.setCell ⟨g,i,none⟩ u) g t (cs.setIfInBounds i u):=by
 unfold Blk at h ⊢;simp [World.setCell,Array.getElem?_modify,h]
theorem Blk.far {w:World}{g:Nat}{t:TypeId}{cs:Array Value}(h:Blk w g t cs){p:Addr}(hp:g≠p.block)(u:Value):Blk (w.setCell p u) g t cs:=(Below.heap_setCell w p u g hp).trans h
theorem Blk.below {w w':World}{g B:Nat}{t:TypeId}{cs:Array Value}(h:Blk w g t cs)(hb:Below B w w')(hg:g < B):Blk w' g t cs:=(hb.block g hg).trans h
theorem Blk.only {w w':World}{g g' B:Nat}{t:TypeId}{cs:Array Value}(h:Blk w g t cs)(hb:Yk B g' w w')(hg:g < B)(hn:g≠g'):Blk w' g t cs:=(hb.block g hg hn).trans h
end Go.Proofs.YtpheiojmcafolaaGreatDoor
namespace Go.Proofs.YtpheiojmcafolaaGreatDoor
open Go.RowKit Go.Sort
def Y2 (w:World)(B:Nat)(A:Option Addr)(ss:List (List UInt8)):Prop:=
 ss≠[]->∃b o,A=some ⟨b,o,none⟩/\b < B/\∀i l,ss[i]? = some l->w.cell? ⟨b,o+i,none⟩=some (encStr l)
theorem Y2.nil (w:World)(B:Nat)(A:Option Addr):Y2 w B A []:=λh=>absurd rfl h
theorem Y2.keep {w w':World}{B:Nat}{A:Option Addr}{ss:List (List UInt8)}(h:Y2 w B A ss)(hk:∀p:Addr,p.block < B->w'.cell? p=w.cell? p):Y2 w' B A ss:=λhne=>by
 obtain ⟨b,o,e,hb,hc⟩:=h hne;exact ⟨b,o,e,hb,λi l hl=>(hk _ hb).trans (hc i l hl)⟩
theorem Y2.below {w w':World}{B:Nat}{A:Option Addr}{ss:List (List UInt8)}(h:Y2 w B A ss)(hb:Below B w w'):Y2 w' B A ss:=h.keep λ_ hp=>hb.cell hp
theorem Y2.more {w:World}{B B':Nat}{A:Option Addr}{ss:List (List UInt8)}(h:Y2 w B A ss)(hB:B<=B'):Y2 w B' A ss:=λhne=>by
 obtain ⟨b,o,e,hb,hc⟩:=h hne;exact ⟨b,o,e,Nat.lt_of_lt_of_le hb hB,hc⟩
theorem Y2.at_ {w:World}{B:Nat}{A:Option Addr}{ss:List (List UInt8)}(h:Y2 w B A ss){i:Nat}(hi:i < ss.length):∃b o,A=some ⟨b,o,none⟩/\b < B/\∀j l,ss[j]? = some l->w.cell? ⟨b,o+j,none⟩=some (encStr l):=
 h (by intro e;subst e;simp at hi)
theorem Zcr (s:ByteArray):encStr s.toList=.string s:=by
 show Value.string ⟨s.toList.toArray⟩=_;rw [ByteArray.toList_eq]
theorem Zdg (W:World)(t:TypeId)(x:Value)(g:Nat)(hg:g=W.heap.size)(j:Nat)(u:Value)(hu:[x][j]? = some u):(W.alloc (.cells #[x] t)).cell? ((⟨g,0,none⟩:Addr).add j)=some u:=by
 subst hg;match j,hu with
 | 0,hu=>simp at hu;subst hu;simp [Addr.add]
end Go.Proofs.YtpheiojmcafolaaGreatDoor
namespace Go.Proofs.YtpheiojmcafolaaGreatDoor
open Go.RowKit
structure Kh {α:Type}(enc:α->List Value)(k:Nat):Prop where
 len:∀x,(enc x).length=k
 pos:0 < k
 one:∀x u,u∈enc x->u.oneCell'=true
section
variable {α : Type} {enc : α -> List Value} {k : Nat}
def Zr (enc:α->List Value)(xs:List α):List Value:=xs.flatMap enc
theorem Zf7 (he:Kh enc k)(xs:List α):(Zr enc xs).length=xs.length*k:=by
 induction xs with
 | nil=>simp [Zr]
 | cons x xs ih=>simp only [Zr,List.flatMap_cons,List.length_append,List.length_cons] at ih ⊢;rw [ih,he.len,Nat.add_mul];omega
theorem Y6 (xs ys:List α):Zr enc (xs++ys)=Zr enc xs++Zr enc ys:=by simp [Zr]
theorem J9 (x:α):Zr enc [x]=enc x:=by simp [Zr]
theorem Zlh (he:Kh enc k)(xs:List α):∀(i r:Nat),r < k->(Zr enc xs)[i*k+r]? = (xs[i]?).bind λx=>(enc x)[r]?:=by
 induction xs with
 | nil=>intro i r _;simp [Zr]
 | cons x xs ih=>
  intro i r hr;have hl:=he.len x;simp only [Zr,List.flatMap_cons] at ih ⊢;cases i with
  | zero=>rw [List.getElem?_append_left (by omega)];simp
  | succ i=>
   have h1:(i+1)*k=i*k+k:=(by rw [Nat.add_mul];omega);rw [List.getElem?_append_right (by omega),hl,show (i+1)*k+r - k=i*k+r from by omega,ih i r hr];simp
theorem Jy (he:Kh enc k)(xs:List α):∀u∈Zr enc xs,u.oneCell'=true:=by
 intro u hu;simp only [Zr,List.mem_flatMap] at hu;obtain ⟨x,_,hx⟩:=hu;exact he.one x u hx
def AtG (enc:α->List Value)(w:World)(b o:Nat)(x:α):Prop:=∀j u,(enc x)[j]? = some u->w.cell? ⟨b,o+j,none⟩=some u
def SlG (enc:α->List Value)(k:Nat)(w:World)(B:Nat)(A:Option Addr)(xs:List α):Prop:=
 xs≠[]->∃b o,A=some ⟨b,o,none⟩/\b < B/\∀i x,xs[i]? = some x->AtG enc w b (o+i*k) x
theorem AtG.keep {w w':World}{b o B:Nat}{x:α}(h:AtG enc w b o x)(hb:b < B)(hk:∀p:Addr,p.block < B->w'.cell? p=w.cell? p):AtG enc w' b o x:=λj u hu=>(hk _ hb).trans (h j u hu)
theorem SlG.keep {w w':World}{B:Nat}{A:Option Addr}{xs:List α}(h:SlG enc k w B A xs)(hk:∀p:Addr,p.block < B->w'.cell? p=w.cell? p):SlG enc k w' B A xs:=λhne=>by
 obtain ⟨b,o,e,hb,hc⟩:=h hne;exact ⟨b,o,e,hb,λi x hx=>(hc i x hx).keep hb hk⟩
theorem SlG.below {w w':World}{B:Nat}{A:Option Addr}{xs:List α}(h:SlG enc k w B A xs)(hb:Below B w w'):SlG enc k w' B A xs:=h.keep λ_ hp=>hb.cell hp
theorem SlG.more {w:World}{B B':Nat}{A:Option Addr}{xs:List α}(h:SlG enc k w B A xs)(hB:B<=B'):SlG enc k w B' A xs:=λhne=>by
 obtain ⟨b,o,e,hb,hc⟩:=h hne;exact ⟨b,o,e,Nat.lt_of_lt_of_le hb hB,hc⟩
theorem SlG.later {w w':World}{A:Option Addr}{xs:List α}(h:SlG enc k w w.heap.size A xs)(hb:Below w.heap.size w w'):SlG enc k w' w'.heap.size A xs:=(h.below hb).more hb.size
theorem SlG.nil (w:World)(B:Nat)(A:Option Addr):SlG enc k w B A []:=λh=>absurd rfl h
theorem SlG.at_ {w:World}{B:Nat}{A:Option Addr}{xs:List α}(h:SlG enc k w B A xs){i:Nat}(hi:i < xs.length):∃b o,A=some ⟨b,o,none⟩/\b < B/\∀j x,xs[j]? = some x->AtG enc w b (o+j*k) x:=
 h (by intro e;subst e;simp at hi)
theorem Vs (b o j:Nat):(⟨b,o,none⟩:Addr).add j=⟨b,o+j,none⟩:=by
 unfold Addr.add;split
 . subst_vars;rfl
 . rfl
theorem SlG.flat {w:World}{B b o:Nat}{xs:List α}(he:Kh enc k)(h:SlG enc k w B (some ⟨b,o,none⟩) xs)(j:Nat)(u:Value)(hu:(Zr enc xs)[j]? = some u):w.cell? ((⟨b,o,none⟩:Addr).add j)=some u:=by
 have hne:xs≠[]:=by rintro rfl;simp [Zr] at hu
 obtain ⟨b',o',e,_,hc⟩:=h hne;injection e with e;injection e with e1 e2;subst e1 e2
 rw [Vs];obtain ⟨i,r,hr,rfl⟩:∃i r,r < k/\j=i*k+r:=⟨j / k,j % k,Nat.mod_lt _ he.pos,by rw [Nat.mul_comm];exact (Nat.div_add_mod j k).symm⟩;rw [Zlh he xs i r hr] at hu;cases hx:xs[i]? with
 | none=>rw [hx] at hu;cases hu
 | some x=>
  rw [hx] at hu;rw [<-Nat.add_assoc];exact hc i x hx r u hu
theorem SlG.of_flat (he:Kh enc k){w:World}{B g:Nat}{xs:List α}(hg:g < B)(h:∀j u,(Zr enc xs)[j]? = some u->w.cell? ⟨g,j,none⟩=some u):SlG enc k w B (some ⟨g,0,none⟩) xs:=λ_=>
 ⟨g,0,rfl,hg,λi x hx r u hu=>by
  have hr:r < k:=by have:=(List.getElem?_eq_some_iff.1 hu).1;rw [he.len] at this;exact this
  rw [Nat.zero_add];exact h _ _ (by rw [Zlh he xs i r hr,hx];exact hu)⟩
theorem Zrk (a:Addr)(n:Nat):(a.add n).block=a.block:=by unfold Addr.add;split <;> rfl
theorem SlG.flat_alloc (he:Kh enc k){w:World}{B b o:Nat}{xs:List α}(h:SlG enc k w B (some ⟨b,o,none⟩) xs)(hB:b < w.heap.size)(O:Obj)(j:Nat)(u:Value)(hu:(Zr enc xs)[j]? = some u):(w.alloc O).cell? ((⟨b,o,none⟩:Addr).add j)=some u:=
 (World.cell?_alloc_lt w O _ (by rw [Zrk];exact hB)).trans (h.flat he j u hu)
theorem Y1 (he:Kh enc k){w:World}{base:Nat}{e:TypeId}{v:Value}{n:Nat}{xs:List α}(h:w.ownsRow base e k v n (Zr enc xs)) :
 n=xs.length/\∃A c,v=.slice A n c/\n<=c/\c<=9223372036854775807/\SlG enc k w w.heap.size A xs:=by
 have hn:n=xs.length:=by
  have:=h.1;rw [Zf7 he] at this;exact (Nat.eq_of_mul_eq_mul_right he.pos this).symm
 refine ⟨hn,?_⟩;rcases h.2 with ⟨hv,h0⟩ | ⟨g,cap,cur,hv,hb,hg,hnc,hcm,hcs,htk⟩
 . subst h0;have:xs = []:=List.eq_nil_of_length_eq_zero hn.symm;subst this;exact ⟨none,0,hv,nL _,by omega,SlG.nil _ _ _⟩
 . unfold maxLen at hcm;refine ⟨some ⟨g,0,none⟩,cap,hv,hnc,hcm,SlG.of_flat he (Array.getElem?_eq_some_iff.1 hg).1 λj u hu=>?_⟩;have hj:j < n*k:=by have:=(List.getElem?_eq_some_iff.1 hu).1;rw [Zf7 he,<-hn] at this;exact this
   subst hv;exact (h.cellAt j hj).trans hu
theorem Zu {B n m:Nat}{e:TypeId}{v:Value}{xs:List Value}{w w':World}(h:w.ownsRow B e m v n xs)(hb:RowKit.Below w.heap.size w w'):w'.ownsRow B e m v n xs:=
 h.kept (row:=none) ⟨hb.os,hb.tape,hb.output,hb.size,λk hk _=>hb.block k hk⟩ (by cases hv:v.ownBlock with | none=>exact .inl rfl | some g=>exact .inr (by simp))
theorem Zad (W:World)(t:TypeId)(x:α)(cs:Array Value)(hcs:cs.toList=enc x)(g:Nat)(hg:g=W.heap.size)(j:Nat)(u:Value)(hu:(Zr enc [x])[j]? = some u) :
 (W.alloc (.cells cs t)).cell? ((⟨g,0,none⟩:Addr).add j)=some u:=by
 subst hg;rw [Vs,Nat.zero_add,World.cell?_alloc_new,<-hu,J9,<-hcs,Array.getElem?_toList]
theorem Zs3 (he:Kh enc k)(W:World)(t:TypeId)(xs:List α)(cs:Array Value)(h:cs.toList=Zr enc xs):SlG enc k (W.alloc (.cells cs t)) (W.heap.size+1) (some ⟨W.heap.size,0,none⟩) xs:=
 SlG.of_flat he (by omega) λj u hu=>by rw [World.cell?_alloc_new,<-hu,<-h,Array.getElem?_toList]
end
inductive Z30 where
 | one
 | set (c:Nat) (last:Option (List Nd))
 | flds (c:Nat) (last:ByteArray)
def Zkl (last:Option (List Nd))(p:List Nd):Bool:=
 match last with
 | none=>false
 | some l=>decide (0<=Zz l p)
def Ql (last s:ByteArray):Bool:=Op.bytesLess s.toList last.toList || s.toList==last.toList
def piece (e:List Nd)(i j:Nat):List Nd:=(e.drop i).take (j - i)
theorem Zfj {e:List Nd}{i j:Nat}(hj:j<=e.length):(piece e i j).length=j - i:=by
 unfold piece;rw [List.length_take,List.length_drop];omega
theorem Zy2 (e:List Nd)(i j:Nat):(piece e i j).length<=e.length:=by
 unfold piece;rw [List.length_take,List.length_drop];omega
def vGo (e:List Nd):Nat->Z30->Nat->Option Nat
 | 0,.one,_=>none
 | 0,.set c _,i=>if c=0 then some i else none
 | 0,.flds c _,i=>if c=0 then some i else none
 | f+1,.one,i=>
  match e[i]? with
  | none=>none
  | some n=>
   if Zj n=false then none
   else if n.op=5 then vGo e f (.set n.n.toNat none) (i+1)
   else if n.op=6 then vGo e f (.flds n.n.toNat ⟨#[]⟩) (i+1)
   else if n.op=7 then none
   else some (i+1)
 | f+1,.set c last,i=>
  match c with
  | 0=>some i
  | c+1=>
   match vGo e f .one i with
   | none=>none
   | some j=>if Zkl last (piece e i j)=true then none else vGo e f (.set c (some (piece e i j))) j
 | f+1,.flds c last,i=>
  match c with
  | 0=>some i
  | c+1=>
   match e[i]? with
   | none=>none
   | some m=>
    if m.op≠7\/Zj m=false\/Ql last m.s=true then none
    else
     match vGo e f .one (i+1) with
     | none=>none
     | some j=>vGo e f (.flds c m.s) j
theorem X1 (e:List Nd):∀(f:Nat) (t:Z30) (i j:Nat),vGo e f t i=some j->(i<=e.length->j<=e.length)/\i<=j/\(t=.one->i < j):=by
 intro f;induction f with
 | zero=>
  intro t i j h;cases t with
  | one=>simp [vGo] at h
  | set c l=>simp only [vGo] at h;split at h <;> simp at h;subst h;exact ⟨id,nL _,λh=>by cases h⟩
  | flds c l=>simp only [vGo] at h;split at h <;> simp at h;subst h;exact ⟨id,nL _,λh=>by cases h⟩
 | succ f ih=>
  intro t i j h;cases t with
  | one=>
   simp only [vGo] at h;split at h
   . cases h
   . rename_i n hn;have hi:i < e.length:=(List.getElem?_eq_some_iff.1 hn).1;split at h
     . cases h
     . split at h
       . obtain ⟨h1,h2,_⟩:=ih _ _ _ h;exact ⟨λ_=>h1 hi,by omega,λ_=>by omega⟩
       . split at h
         . obtain ⟨h1,h2,_⟩:=ih _ _ _ h;exact ⟨λ_=>h1 hi,by omega,λ_=>by omega⟩
         . split at h
           . cases h
           . injection h with h;subst h;exact ⟨λ_=>hi,by omega,λ_=>by omega⟩
  | set c l=>
   cases c with
   | zero=>simp only [vGo] at h;injection h with h;subst h;exact ⟨id,nL _,λh=>by cases h⟩
   | succ c=>
    simp only [vGo] at h;split at h
    . cases h
    . rename_i k hk;obtain ⟨a1,a2,a3⟩:=ih _ _ _ hk;split at h
      . cases h
      . obtain ⟨h1,h2,_⟩:=ih _ _ _ h;exact ⟨λq=>h1 (a1 q),by omega,λh=>by cases h⟩
  | flds c l=>
   cases c with
   | zero=>simp only [vGo] at h;injection h with h;subst h;exact ⟨id,nL _,λh=>by cases h⟩
   | succ c=>
    simp only [vGo] at h;split at h
    . cases h
    . rename_i n hn;have hi:i < e.length:=(List.getElem?_eq_some_iff.1 hn).1;split at h
      . cases h
      . split at h
        . cases h
        . rename_i k hk;obtain ⟨a1,a2,a3⟩:=ih _ _ _ hk;obtain ⟨h1,h2,_⟩:=ih _ _ _ h;exact ⟨λ_=>h1 (a1 hi),by omega,λh=>by cases h⟩
def Zb (e:List Nd):Int:=if 200 < e.length then 4 else if vGo e (2*e.length) .one 0=some e.length then 0 else 1
def Xb (l:List UInt8):Bool:=
 match l with
 | []=>Zf []==0 && !Kk []
 | c :: r=>if c=63 then Zf r==0 else Zf (c :: r)==0 && !Kk (c :: r)
def Zx (x:Nd):Bool:=
 if x.op=1\/x.op=2\/x.op=3\/x.op=4 then Zb [x]==0
 else if x.op=5\/x.op=6 then decide (0<=x.n) && x.s.toList.isEmpty && x.t.toList.isEmpty
 else if x.op=8 then x.n==0 && x.t.toList.isEmpty && Xb x.s.toList
 else if x.op=7\/x.op=21\/x.op=22\/x.op=24 then x.n==0 && x.t.toList.isEmpty && Zf x.s.toList==0
 else if x.op=23 then x.n==0 && x.t.toList.isEmpty && Yi x.s.toList==0
 else decide (0 < Zl x) && x.n==0 && x.s.toList.isEmpty && x.t.toList.isEmpty
theorem Zgs (s:ByteArray):(s.extract 1 s.size).toList=s.toList.drop 1:=by
 rw [ByteArray.toList_eq,ByteArray.toList_eq,Lib.extract_to_end]
theorem Zmn (s:ByteArray):(s.extract 1 s.size).size=s.size - 1:=by
 rw [<-Zk,Zgs,List.length_drop,Zk]
inductive Zgd where
 | one (fld:Bool)
 | more (c:Nat) (isRec:Bool) (last:ByteArray)
def bGo (e:List Nd):Nat->Zgd->Nat->Option Nat
 | 0,.one _,_=>none
 | 0,.more c _ _,i=>if c=0 then some i else none
 | f+1,.one fld,i=>
  match e[i]? with
  | none=>none
  | some n=>if Zx n=false\/(n.op==7)≠fld then none else bGo e f (.more (Zl n).toNat (n.op==6) ⟨#[]⟩) (i+1)
 | f+1,.more c r last,i=>
  match c with
  | 0=>some i
  | c+1=>
   match e[i]? with
   | none=>none
   | some m=>
    if r=true/\Ql last m.s=true then none
    else
     match bGo e f (.one r) i with
     | none=>none
     | some j=>bGo e f (.more c r (if r=true then m.s else last)) j
def Z5l (v:Option Nat):Int:=
 match v with
 | none=>-1
 | some j=>j
theorem Ka (e:List Nd):∀(f:Nat) (t:Zgd) (i j:Nat),bGo e f t i=some j->(i<=e.length->j<=e.length)/\i<=j/\(∀b,t=.one b->i < j):=by
 intro f;induction f with
 | zero=>
  intro t i j h;cases t with
  | one b=>simp [bGo] at h
  | more c r l=>simp only [bGo] at h;split at h <;> simp at h;subst h;exact ⟨id,nL _,λ_ h=>by cases h⟩
 | succ f ih=>
  intro t i j h;cases t with
  | one b=>
   simp only [bGo] at h;split at h
   . cases h
   . rename_i n hn;have hi:i < e.length:=(List.getElem?_eq_some_iff.1 hn).1;split at h
     . cases h
     . obtain ⟨h1,h2,_⟩:=ih _ _ _ h;exact ⟨λ_=>h1 hi,by omega,λ_ _=>by omega⟩
  | more c r l=>
   cases c with
   | zero=>simp only [bGo] at h;injection h with h;subst h;exact ⟨id,nL _,λ_ h=>by cases h⟩
   | succ c=>
    simp only [bGo] at h;split at h
    . cases h
    . rename_i n hn;have hi:i < e.length:=(List.getElem?_eq_some_iff.1 hn).1;split at h
      . cases h
      . split at h
        . cases h
        . rename_i k hk;obtain ⟨a1,a2,a3⟩:=ih _ _ _ hk;obtain ⟨h1,h2,_⟩:=ih _ _ _ h;exact ⟨λ_=>h1 (a1 (by omega)),by omega,λ_ h=>by cases h⟩
theorem Jt (x:Nd)(h:Zx x=true):0<=Zl x:=by
 unfold Zl;split
 . omega
 . split
   . rename_i h1 h2;unfold Zx at h;rw [if_neg (by omega),if_pos h2] at h;simp at h;omega
   . split
     . omega
     . split
       . omega
       . split
         . omega
         . rename_i h1 h2 h3 h4 h5;unfold Zx at h;rw [if_neg (by omega),if_neg (by omega),if_neg (by omega),if_neg (by omega),if_neg (by omega)] at h;unfold Zl at h;rw [if_neg (by omega),if_neg (by omega),if_neg (by omega),if_neg (by omega),if_neg (by omega)] at h;simp at h
def Zo (e:List Nd):Int:=if 200 < e.length then 4 else if bGo e (2*e.length) (.one false) 0=some e.length then 0 else 1
def skP:List Nd->Int->Nat->Option Nat
 | [],left,i=>if left<=0 then some i else none
 | n :: l,left,i=>if left<=0 then some i else skP l (left+Zl n - 1) (i+1)
theorem Zjj (l:List Nd)(i:Nat):skP l 0 i=some i:=by cases l <;> simp [skP]
theorem Zo3 {e:List Nd}{i:Nat}{n:Nd}(hn:e[i]? = some n){left:Int}(h:0 < left):skP (e.drop i) left i=skP (e.drop (i+1)) (left+Zl n - 1) (i+1):=by
 have hi:i < e.length:=(List.getElem?_eq_some_iff.1 hn).1;rw [List.drop_eq_getElem_cons hi];rw [gE hi] at hn;injection hn with hn
 rw [hn,skP,if_neg (by omega)]
theorem Zy9 (e:List Nd):∀(f:Nat) (t:Zgd) (i j:Nat),bGo e f t i=some j->bGo e (f+1) t i=some j:=by
 intro f;induction f with
 | zero=>
  intro t i j h;cases t with
  | one b=>simp [bGo] at h
  | more c r l=>simp only [bGo] at h;split at h <;> simp at h;subst h;rename_i hc;subst hc;simp [bGo]
 | succ f ih=>
  intro t i j h;cases t with
  | one b=>
   rw [bGo] at h ⊢;split at h
   . cases h
   . rename_i n hn;split at h
     . cases h
     . rename_i hc;rw [if_neg hc];exact ih _ _ _ h
  | more c r l=>
   cases c with
   | zero=>simp only [bGo] at h ⊢;exact h
   | succ c=>
    rw [bGo] at h ⊢;split at h
    . cases h
    . rename_i n hn;split at h
      . cases h
      . rename_i hc;rw [if_neg hc];split at h
        . cases h
        . rename_i k hk;rw [ih _ _ _ hk];exact ih _ _ _ h
theorem Zn7 (e:List Nd){f f':Nat}(hf:f<=f'){t:Zgd}{i j:Nat}(h:bGo e f t i=some j):bGo e f' t i=some j:=by
 induction f' with
 | zero=>
  obtain rfl:f=0:=(by omega);exact h
 | succ f' ih=>
  rcases Nat.lt_or_ge f' f with h1 | h1
  . obtain rfl:f=f'+1:=(by omega);exact h
  . exact Zy9 e f' t i j (ih h1)
theorem Zss (e:List Nd):∀(f:Nat) (t:Zgd) (i j:Nat),bGo e f t i=some j->∀k:Int,0<=k ->
 skP (e.drop i) ((match t with | .one _=>1 | .more c _ _=>(c:Int))+k) i=skP (e.drop j) k j:=by
 intro f;induction f with
 | zero=>
  intro t i j h k hk;cases t with
  | one b=>simp [bGo] at h
  | more c r l=>simp only [bGo] at h;split at h <;> simp at h;subst h;rename_i hc;subst hc;simp
 | succ f ih=>
  intro t i j h k hk;cases t with
  | one b=>
   rw [bGo] at h;split at h
   . cases h
   . rename_i n hn;split at h
     . cases h
     . rename_i hc;have hp:=Jt n (by simpa using (not_or.1 hc).1);rw [Zo3 hn (by simp only;omega)];have:=ih _ _ _ h k hk;simp only at this ⊢;rw [show ((Zl n).toNat:Int)=Zl n from Int.toNat_of_nonneg hp] at this;rw [show (1:Int)+k+Zl n - 1=Zl n+k from by omega];exact this
  | more c r l=>
   cases c with
   | zero=>simp only [bGo] at h;injection h with h;subst h;simp
   | succ c=>
    rw [bGo] at h;split at h
    . cases h
    . split at h
      . cases h
      . split at h
        . cases h
        . rename_i m hm;have h1:=ih _ _ _ hm ((c:Int)+k) (by omega);have h2:=ih _ _ _ h k hk;simp only at h1 h2 ⊢;rw [show ((c+1:Nat):Int)+k=1+((c:Int)+k) from by omega,h1];exact h2
theorem Z3a (e:List Nd):∀(f:Nat) (t:Zgd) (i j:Nat),bGo e f t i=some j->∀k x,i<=k->k < j->e[k]? = some x ->
 ∃f' r,f'<=f/\bGo e f' (.one (x.op==7)) k=some r/\r<=j:=by
 intro f;induction f with
 | zero=>
  intro t i j h k x h1 h2 _;cases t with
  | one b=>simp [bGo] at h
  | more c r l=>simp only [bGo] at h;split at h <;> simp at h;omega
 | succ f ih=>
  intro t i j h k x h1 h2 hx;cases t with
  | one b=>
   have h0:=h;rw [bGo] at h;split at h
   . cases h
   . rename_i n hn;split at h
     . cases h
     . rename_i hc;rcases Nat.lt_or_ge i k with hik | hik
       . obtain ⟨f',r,q1,q2,q3⟩:=ih _ _ _ h k x (by omega) h2 hx;exact ⟨f',r,by omega,q2,q3⟩
       . obtain rfl:i=k:=(by omega);rw [hn] at hx;injection hx with hx
         subst hx;have:(n.op==7)=b:=(by simpa using (not_or.1 hc).2);rw [this];exact ⟨f+1,j,nL _,h0,nL _⟩
  | more c r l=>
   cases c with
   | zero=>simp only [bGo] at h;injection h with h;omega
   | succ c=>
    rw [bGo] at h;split at h
    . cases h
    . split at h
      . cases h
      . split at h
        . cases h
        . rename_i m hm;rcases Nat.lt_or_ge k m with hkm | hkm
          . obtain ⟨f',s,q1,q2,q3⟩:=ih _ _ _ hm k x h1 hkm hx;have:=(Ka e _ _ _ _ h).2.1;exact ⟨f',s,by omega,q2,by omega⟩
          . obtain ⟨f',s,q1,q2,q3⟩:=ih _ _ _ h k x hkm h2 hx;exact ⟨f',s,by omega,q2,q3⟩
theorem Zvq (e:List Nd):∀(f c:Nat) (r:Bool) (l:ByteArray) (i j:Nat),bGo e f (.more c r l) i=some j->i+c<=j:=by
 intro f;induction f with
 | zero=>intro c r l i j h;simp only [bGo] at h;split at h <;> simp at h;omega
 | succ f ih=>
  intro c r l i j h;cases c with
  | zero=>simp only [bGo] at h;injection h with h;omega
  | succ c=>
   rw [bGo] at h;split at h
   . cases h
   . split at h
     . cases h
     . split at h
       . cases h
       . rename_i m hm;have h1:=(Ka e _ _ _ _ hm).2.2 _ rfl;have h2:=ih _ _ _ _ _ h;omega
theorem Zll {e:List Nd}{f i j:Nat}{b:Bool}{x:Nd}(h:bGo e f (.one b) i=some j)(hx:e[i]? = some x):Zx x=true/\(x.op==7)=b/\0<=Zl x/\i+1+(Zl x).toNat<=j:=by
 cases f with
 | zero=>simp [bGo] at h
 | succ f=>
  simp only [bGo,hx] at h;split at h
  . cases h
  . rename_i hc;have hs:Zx x=true:=(by simpa using (not_or.1 hc).1);exact ⟨hs,by simpa using (not_or.1 hc).2,Jt x hs,Zvq e _ _ _ _ _ _ h⟩
theorem Ztt {e:List Nd}(h:Zo e=0){k:Nat}{x:Nd}(hx:e[k]? = some x):∃r,bGo e (2*e.length) (.one (x.op==7)) k=some r/\r<=e.length:=by
 have hk:k < e.length:=(List.getElem?_eq_some_iff.1 hx).1;unfold Zo at h;split at h
 . cases h
 . split at h
   . rename_i h1;obtain ⟨f',r,q1,q2,q3⟩:=Z3a e _ _ _ _ h1 k x (by omega) hk hx;exact ⟨r,Zn7 e q1 q2,q3⟩
   . cases h
theorem Zca {e:List Nd}(h:Zo e=0):e.length<=200/\0 < e.length:=by
 unfold Zo at h;split at h
 . cases h
 . refine ⟨by omega,?_⟩;rcases Nat.eq_zero_or_pos e.length with h0 | h0
   . have:e = []:=List.eq_nil_of_length_eq_zero h0;subst this;simp [bGo] at h
   . exact h0
def flat (xs:List Nd):List Value:=xs.flatMap Nd.cells
theorem Xw (xs:List Nd):(flat xs).length=xs.length*4:=by
 induction xs with
 | nil=>rfl
 | cons x xs ih=>simp only [flat,List.flatMap_cons,List.length_append,List.length_cons] at ih ⊢;rw [ih];simp [Nd.cells];omega
theorem U0 (xs ys:List Nd):flat (xs++ys)=flat xs++flat ys:=by simp [flat]
theorem Zzr (x:Nd):flat [x] = [.int .i64 x.op,.int .i64 x.n,.string x.s,.string x.t]:=by simp [flat,Nd.cells]
theorem Zo0 (xs:List Nd):∀(i r:Nat),r < 4->(flat xs)[i*4+r]? = (xs[i]?).bind λx=>x.cells[r]?:=by
 induction xs with
 | nil=>intro i r _;simp [flat]
 | cons x xs ih=>
  intro i r hr;have hl:x.cells.length=4:=rfl;simp only [flat,List.flatMap_cons] at ih ⊢;cases i with
  | zero=>rw [List.getElem?_append_left (by omega)];simp
  | succ i=>
   rw [List.getElem?_append_right (by omega),hl,show (i+1)*4+r - 4=i*4+r from by omega,ih i r hr];simp
theorem Yp (xs:List Nd):∀u∈flat xs,u.oneCell'=true:=by
 intro u hu;simp only [flat,List.mem_flatMap] at hu;obtain ⟨x,_,hx⟩:=hu;simp only [Nd.cells,List.mem_cons,List.not_mem_nil,or_false] at hx;rcases hx with rfl | rfl | rfl | rfl <;> rfl
theorem Ye.flat {w:World}{B b o:Nat}{xs:List Nd}(h:Ye w B (some ⟨b,o,none⟩) xs)(j:Nat)(u:Value)(hu:(Proofs.YtpheiojmcafolaaGreatDoor.flat xs)[j]? = some u):w.cell? ((⟨b,o,none⟩:Addr).add j)=some u:=by
 have hne:xs≠[]:=by rintro rfl;simp [Proofs.YtpheiojmcafolaaGreatDoor.flat] at hu
 obtain ⟨b',o',e,_,hc⟩:=h hne;injection e with e;injection e with e1 e2;subst e1 e2
 have hadd:(⟨b,o,none⟩:Addr).add j=⟨b,o+j,none⟩:=by
  unfold Addr.add;split
  . subst_vars;rfl
  . rfl
 rw [hadd];obtain ⟨i,r,hr,rfl⟩:∃i r,r < 4/\j=i*4+r:=⟨j / 4,j % 4,by omega,by omega⟩;rw [Zo0 xs i r hr] at hu;cases hx:xs[i]? with
 | none=>rw [hx] at hu;cases hu
 | some x=>
  rw [hx] at hu;have ha:=hc i x hx;match r,hr,hu with
  | 0,_,hu=>simp [Nd.cells] at hu;subst hu;exact ha.c0
  | 1,_,hu=>simp [Nd.cells] at hu;subst hu;rw [<-Nat.add_assoc];exact ha.c1
  | 2,_,hu=>simp [Nd.cells] at hu;subst hu;rw [<-Nat.add_assoc];exact ha.c2
  | 3,_,hu=>simp [Nd.cells] at hu;subst hu;rw [<-Nat.add_assoc];exact ha.c3
theorem Ye.of_flat {w:World}{B g:Nat}{xs:List Nd}(hg:g < B)(h:∀j u,(Proofs.YtpheiojmcafolaaGreatDoor.flat xs)[j]? = some u->w.cell? ⟨g,j,none⟩=some u):Ye w B (some ⟨g,0,none⟩) xs:=λ_=>
 ⟨g,0,rfl,hg,λi x hx=>by
  have hh:∀r u,r < 4->x.cells[r]? = some u->w.cell? ⟨g,i*4+r,none⟩=some u:=λr u hr hu=>h _ _ (by rw [Zo0 xs i r hr,hx];exact hu);constructor
  . rw [Nat.zero_add];exact hh 0 _ (by omega) rfl
  . rw [Nat.zero_add];exact hh 1 _ (by omega) rfl
  . rw [Nat.zero_add];exact hh 2 _ (by omega) rfl
  . rw [Nat.zero_add];exact hh 3 _ (by omega) rfl⟩
theorem Zmc (a:Addr)(n:Nat):(a.add n).block=a.block:=by unfold Addr.add;split <;> rfl
theorem Ye.flat_alloc {w:World}{B b o:Nat}{xs:List Nd}(h:Ye w B (some ⟨b,o,none⟩) xs)(hB:b < w.heap.size)(O:Obj)(j:Nat)(u:Value)(hu:(Proofs.YtpheiojmcafolaaGreatDoor.flat xs)[j]? = some u):(w.alloc O).cell? ((⟨b,o,none⟩:Addr).add j)=some u:=
 (World.cell?_alloc_lt w O _ (by rw [Zmc];exact hB)).trans (h.flat j u hu)
theorem Zvm {w:World}{base:Nat}{e:TypeId}{v:Value}{n:Nat}{xs:List Nd}(h:w.ownsRow base e 4 v n (flat xs)) :
 n=xs.length/\∃A c,v=.slice A n c/\n<=c/\Ye w w.heap.size A xs:=by
 have hn:n=xs.length:=by have:=h.1;rw [Xw] at this;omega
 refine ⟨hn,?_⟩;rcases h.2 with ⟨hv,h0⟩ | ⟨g,cap,cur,hv,hb,hg,hnc,hcm,hcs,htk⟩
 . subst h0;have:xs = []:=List.eq_nil_of_length_eq_zero hn.symm;subst this;exact ⟨none,0,hv,nL _,Ye.nil _ _ _⟩
 . refine ⟨some ⟨g,0,none⟩,cap,hv,hnc,Ye.of_flat (Array.getElem?_eq_some_iff.1 hg).1 λj u hu=>?_⟩;have hj:j < n*4:=by have:=(List.getElem?_eq_some_iff.1 hu).1;rw [Xw] at this;omega
   subst hv;exact (h.cellAt j hj).trans hu
theorem Zpq {w:World}{base:Nat}{e:TypeId}{v:Value}{n:Nat}{xs ys:List Nd}(h:w.ownsRow base e 4 v n (flat xs++flat ys)) :
 ∃A c,v=.slice A n c/\n<=c/\c<=9223372036854775807/\Ye w w.heap.size A (xs++ys):=by
 rw [<-U0] at h;obtain ⟨_,A,c,hv,hc,hs⟩:=Zvm h;refine ⟨A,c,hv,hc,?_,hs⟩;rcases h.2 with ⟨h1,h0⟩ | ⟨g,cap,cur,h1,_,_,_,hm,_⟩
 . rw [hv] at h1;injection h1 with _ _ h1;omega
 . rw [hv] at h1;injection h1 with _ _ h1;unfold maxLen at hm;omega
theorem Zoy (W:World)(t:TypeId)(x:Nd)(g:Nat)(hg:g=W.heap.size)(j:Nat)(u:Value)(hu:(flat [x])[j]? = some u) :
 (W.alloc (.cells #[.int .i64 x.op,.int .i64 x.n,.string x.s,.string x.t] t)).cell? ((⟨g,0,none⟩:Addr).add j)=some u:=by
 subst hg;have hadd:(⟨W.heap.size,0,none⟩:Addr).add j=⟨W.heap.size,j,none⟩:=by
  unfold Addr.add;split
  . subst_vars;rfl
  . simp
 rw [hadd,World.cell?_alloc_new,<-hu,Zzr,List.getElem?_toArray]
def Zqa (s:ByteArray)(n:Nd):Bool:=n.op==8 && n.s.toList==s.toList
def Z2f (e:List Nd)(s:ByteArray)(v:List Nd):List Nd:=e.flatMap λn=>if Zqa s n=true then v else [n]
theorem Zu2 (n:Nd)(e:List Nd)(s:ByteArray)(v:List Nd):Z2f (n :: e) s v=(if Zqa s n=true then v else [n])++Z2f e s v:=by simp [Z2f]
inductive Ex:Zgd->List Nd->Prop where
 | one (n:Nd) (body:List Nd) (fld:Bool):Zx n=true->(n.op==7)=fld->Ex (.more (Zl n).toNat (n.op==6) ⟨#[]⟩) body->Ex (.one fld) (n :: body)
 | nil (r:Bool) (l:ByteArray):Ex (.more 0 r l) []
 | cons (c:Nat) (r:Bool) (l:ByteArray) (m:Nd) (xs ys:List Nd):(r=true->Ql l m.s=false)->Ex (.one r) (m :: xs)->Ex (.more c r (if r=true then m.s else l)) ys->Ex (.more (c+1) r l) (m :: xs++ys)
theorem Xs (e:List Nd)(i:Nat):piece e i i = []:=by simp [piece]
theorem Vz {e:List Nd}{i j:Nat}{x:Nd}(hx:e[i]? = some x)(h:i < j):piece e i j=x :: piece e (i+1) j:=by
 have hi:i < e.length:=(List.getElem?_eq_some_iff.1 hx).1;unfold piece;rw [List.drop_eq_getElem_cons hi,show j - i=(j - (i+1))+1 from by omega,List.take_succ_cons];rw [gE hi] at hx;injection hx with hx;rw [hx]
theorem Kd (e:List Nd){i k j:Nat}(h1:i<=k)(h2:k<=j):piece e i j=piece e i k++piece e k j:=by
 unfold piece;have:e.drop k=(e.drop i).drop (k - i):=by rw [List.drop_drop];congr 1;omega
 rw [this,show j - i=(k - i)+(j - k) from by omega,List.take_add]
theorem Zwb (e:List Nd):∀(f:Nat) (t:Zgd) (i j:Nat),bGo e f t i=some j->Ex t (piece e i j):=by
 intro f;induction f with
 | zero=>
  intro t i j h;cases t with
  | one b=>simp [bGo] at h
  | more c r l=>simp only [bGo] at h;split at h <;> simp at h;subst h;rename_i hc;subst hc;rw [Xs];exact .nil r l
 | succ f ih=>
  intro t i j h;cases t with
  | one b=>
   have hij:=(Ka e _ _ _ _ h).2.2 b rfl;rw [bGo] at h;split at h
   . cases h
   . rename_i n hn;split at h
     . cases h
     . rename_i hc;rw [Vz hn hij];exact .one n _ b (by simpa using (not_or.1 hc).1) (by simpa using (not_or.1 hc).2) (ih _ _ _ h)
  | more c r l=>
   cases c with
   | zero=>simp only [bGo] at h;injection h with h;subst h;rw [Xs];exact .nil r l
   | succ c=>
    rw [bGo] at h;split at h
    . cases h
    . rename_i n hn;split at h
      . cases h
      . rename_i hc;split at h
        . cases h
        . rename_i k hk;have h1:=(Ka e _ _ _ _ hk).2.2 r rfl;have h2:=(Ka e _ _ _ _ h).2.1;rw [Kd e (Nat.le_of_lt h1) h2,Vz hn h1];have hx:=ih _ _ _ hk;rw [Vz hn h1] at hx;exact .cons c r l n _ _ (λhr=>by
           have hc':=not_and.1 hc hr;simpa using hc') hx (ih _ _ _ h)
theorem Zfn {t:Zgd}{xs:List Nd}(h:Ex t xs):∀(a b:List Nd) (f:Nat),2*xs.length+(match t with | .one _=>0 | .more _ _ _=>1)<=f->bGo (a++xs++b) f t a.length=some (a.length+xs.length):=by
 induction h with
 | one n body fld hs h7 hb ih=>
  intro a b f hf;simp only [List.length_cons] at hf;obtain ⟨f,rfl⟩:∃g,f=g+1:=⟨f - 1,by omega⟩;have hn:(a++n :: body++b)[a.length]? = some n:=by simp
  have h2:=ih (a ++ [n]) b f (by simp only;omega);rw [bGo,hn];simp only;rw [if_neg (by simp [hs,h7])];simp only [List.append_assoc,List.length_append,List.length_cons,List.length_nil,List.cons_append,List.nil_append] at h2 ⊢;rw [h2];congr 1;omega
 | nil r l=>
  intro a b f hf;cases f <;> simp [bGo]
 | cons c r l m xs ys hl hx hy ih1 ih2=>
  intro a b f hf;simp only [List.length_append,List.length_cons] at hf;obtain ⟨f,rfl⟩:∃g,f=g+1:=⟨f - 1,by omega⟩;have hn:(a++(m :: xs++ys)++b)[a.length]? = some m:=by simp
  have h1:=ih1 a (ys++b) f (by simp only [List.length_cons];omega);have h2:=ih2 (a++(m :: xs)) b f (by simp only;omega);rw [bGo,hn];simp only;rw [if_neg (by
   rintro ⟨hr,hb⟩;rw [hl hr] at hb;cases hb)]
  simp only [List.append_assoc,List.length_append,List.length_cons,List.cons_append] at h1 h2 ⊢;rw [h1];simp only;rw [h2];congr 1;omega
theorem Xd (e:List Nd):Zo e=0 ↔ e.length<=200/\Ex (.one false) e:=by
 constructor
 . intro h;have h':=h;unfold Zo at h';split at h'
   . cases h'
   . split at h'
     . rename_i h1 h2;have:=Zwb e _ _ _ _ h2;rw [show piece e 0 e.length=e from by simp [piece]] at this;exact ⟨by omega,this⟩
     . cases h'
 . rintro ⟨h1,h2⟩;have:=Zfn h2 [] [] (2*e.length) (by simp);simp only [List.nil_append,List.append_nil,List.length_nil,Nat.zero_add] at this;simp [Zo,this,Nat.not_lt.2 h1]
def Y3 (e:List Nd):List (List UInt8):=(e.filter λn=>n.op==8).map λn=>n.s.toList
theorem Zbc (a b:List Nd):Y3 (a++b)=Y3 a++Y3 b:=by simp [Y3]
theorem Qy (n:Nd)(e:List Nd):Y3 (n :: e)=(if n.op==8 then [n.s.toList] else [])++Y3 e:=by
 unfold Y3;rw [List.filter_cons];split <;> simp
theorem Z51 (e:List Nd)(s:ByteArray)(v:List Nd)(t:List UInt8):t∈Y3 (Z2f e s v) ↔ (t∈Y3 e/\t≠s.toList)\/(s.toList∈Y3 e/\t∈Y3 v):=by
 induction e with
 | nil=>simp [Z2f,Y3]
 | cons n e ih=>
  rw [Zu2,Zbc,List.mem_append,ih,Qy];by_cases hn:Zqa s n=true
  . have hh:=hn;unfold Zqa at hh;simp at hh;rw [if_pos hn];simp only [hh.1,BEq.rfl,if_true,List.mem_append,List.mem_singleton,hh.2];constructor
    . rintro (h | h | h)
      . exact .inr ⟨.inl trivial,h⟩
      . exact .inl ⟨.inr h.1,h.2⟩
      . exact .inr ⟨.inr h.1,h.2⟩
    . rintro (⟨h1 | h1,h2⟩ | ⟨h1,h2⟩)
      . exact absurd h1 h2
      . exact .inr (.inl ⟨h1,h2⟩)
      . exact .inl h2
  . rw [if_neg hn,Qy];by_cases h8:(n.op==8)=true
    . have hne:n.s.toList≠s.toList:=by
       intro he;apply hn;unfold Zqa;rw [h8,he];simp
      simp only [h8,if_true,Y3,List.filter_nil,List.map_nil,List.append_nil,List.mem_append,List.mem_singleton];constructor
      . rintro (h | h | h)
        . exact .inl ⟨.inl h,by rw [h];exact hne⟩
        . exact .inl ⟨.inr h.1,h.2⟩
        . exact .inr ⟨.inr h.1,h.2⟩
      . rintro (⟨h1 | h1,h2⟩ | ⟨h1 | h1,h2⟩)
        . exact .inl h1
        . exact .inr (.inl ⟨h1,h2⟩)
        . exact absurd h1.symm hne
        . exact .inr (.inr ⟨h1,h2⟩)
    . simp [h8,Y3]
theorem Z4q (e:List Nd):∀(f:Nat) (t:Z30) (i j:Nat),vGo e f t i=some j ->
 Ex (match t with | .one=>.one false | .set c _=>.more c false ⟨#[]⟩ | .flds c l=>.more c true l) (piece e i j)/\∀x∈piece e i j,¬x.op=8:=by
 intro f;induction f with
 | zero=>
  intro t i j h;cases t with
  | one=>simp [vGo] at h
  | set c l=>simp only [vGo] at h;split at h <;> simp at h;subst h;rename_i hc;subst hc;rw [Xs];exact ⟨.nil _ _,λx hx=>by cases hx⟩
  | flds c l=>simp only [vGo] at h;split at h <;> simp at h;subst h;rename_i hc;subst hc;rw [Xs];exact ⟨.nil _ _,λx hx=>by cases hx⟩
 | succ f ih=>
  intro t i j h;have hb:=X1 e _ _ _ _ h;cases t with
  | one=>
   have hij:=hb.2.2 rfl;rw [vGo] at h;split at h
   . cases h
   . rename_i n hn;split at h
     . cases h
     . rename_i hsh;have hsh:Zj n=true:=(by simpa using hsh);rw [Vz hn hij];split at h
       . rename_i h5;obtain ⟨h1,h2⟩:=ih _ _ _ h;have h1':Ex (.more n.n.toNat false ⟨#[]⟩) (piece e (i+1) j):=h1;refine ⟨.one n _ false ?_ (by simp [h5]) ?_,λx hx=>?_⟩
         . simp [Zj,h5] at hsh;simp [Zx,h5,hsh]
         . rw [show Zl n=n.n from by simp [Zl,h5],show (n.op==6)=false from by simp [h5]];exact h1'
         . rcases List.mem_cons.1 hx with rfl | hx
           . omega
           . exact h2 x hx
       . split at h
         . rename_i h5 h6;obtain ⟨h1,h2⟩:=ih _ _ _ h;have h1':Ex (.more n.n.toNat true ⟨#[]⟩) (piece e (i+1) j):=h1;refine ⟨.one n _ false ?_ (by simp [h6]) ?_,λx hx=>?_⟩
           . simp [Zj,h6] at hsh;simp [Zx,h6,hsh]
           . rw [show Zl n=n.n from by simp [Zl,h6],show (n.op==6)=true from by simp [h6]];exact h1'
           . rcases List.mem_cons.1 hx with rfl | hx
             . omega
             . exact h2 x hx
         . split at h
           . cases h
           . rename_i h5 h6 h7;injection h with h
             subst h;rw [Xs];have h14:n.op=1\/n.op=2\/n.op=3\/n.op=4:=by
              unfold Zj at hsh;repeat' split at hsh
              all_goals first | omega | cases hsh
             have hval:Zb [n]=0:=by
              simp [Zb,vGo,hsh,h5,h6,h7]
             refine ⟨.one n _ false ?_ (by simp [h7]) ?_,λx hx=>?_⟩
             . unfold Zx;rw [if_pos h14,hval];rfl
             . rw [show Zl n=0 from by unfold Zl;rw [if_pos (by omega)]];exact .nil _ _
             . simp only [List.mem_singleton] at hx;subst hx;omega
  | set c l=>
   cases c with
   | zero=>simp only [vGo] at h;injection h with h;subst h;rw [Xs];exact ⟨.nil _ _,λx hx=>by cases hx⟩
   | succ c=>
    rw [vGo] at h;split at h
    . cases h
    . rename_i k hk;split at h
      . cases h
      . obtain ⟨b1,b2,b3⟩:=X1 e _ _ _ _ hk;obtain ⟨_,b5,_⟩:=X1 e _ _ _ _ h;obtain ⟨h1,h2⟩:=ih _ _ _ hk;obtain ⟨h3,h4⟩:=ih _ _ _ h;have hik:=b3 rfl;rw [Kd e (Nat.le_of_lt hik) b5];have hn:∃m,e[i]? = some m:=by
         rcases Nat.lt_or_ge i e.length with hh | hh
         . exact ⟨_,gE hh⟩
         . cases f <;> simp [vGo,List.getElem?_eq_none hh] at hk
        obtain ⟨m,hm⟩:=hn;rw [Vz hm hik] at h1 h2 ⊢;exact ⟨.cons c false ⟨#[]⟩ m _ _ (λh=>by cases h) h1 h3,λx hx=>by
         rcases List.mem_append.1 hx with hx | hx
         . exact h2 x hx
         . exact h4 x hx⟩
  | flds c l=>
   cases c with
   | zero=>simp only [vGo] at h;injection h with h;subst h;rw [Xs];exact ⟨.nil _ _,λx hx=>by cases hx⟩
   | succ c=>
    rw [vGo] at h;split at h
    . cases h
    . rename_i m hm;split at h
      . cases h
      . rename_i hc;split at h
        . cases h
        . rename_i k hk;obtain ⟨hc1,hc2⟩:=not_or.1 hc;obtain ⟨hc2,hc3⟩:=not_or.1 hc2;have hc1:m.op=7:=(by simpa using hc1);have hc2:Zj m=true:=(by simpa using hc2);obtain ⟨b1,b2,b3⟩:=X1 e _ _ _ _ hk;obtain ⟨_,b5,_⟩:=X1 e _ _ _ _ h;obtain ⟨h1,h2⟩:=ih _ _ _ hk;obtain ⟨h3,h4⟩:=ih _ _ _ h;have hik:=b3 rfl;rw [Kd e (show i<=k by omega) b5,Vz hm (by omega)];have hf:∃q,e[i+1]? = some q:=by
           rcases Nat.lt_or_ge (i+1) e.length with hh | hh
           . exact ⟨_,gE hh⟩
           . cases f <;> simp [vGo,List.getElem?_eq_none hh] at hk
          obtain ⟨q,hq⟩:=hf;rw [Vz hq hik] at h1 h2 ⊢;have hfield:Ex (.one true) (m :: (q :: piece e (i+1+1) k)):=by
           refine .one m _ true ?_ (by simp [hc1]) ?_
           . simp [Zj,hc1] at hc2;simp [Zx,hc1,hc2]
           . rw [show Zl m=1 from by simp [Zl,hc1],show (m.op==6)=false from by simp [hc1]];have:=Ex.cons 0 false ⟨#[]⟩ q _ [] (λh=>by cases h) h1 (.nil _ _);simpa using this
          exact ⟨.cons c true l m _ _ (λ_=>by simpa using hc3) hfield h3,λx hx=>by
           rcases List.mem_append.1 hx with hx | hx
           . rcases List.mem_cons.1 hx with rfl | hx
             . omega
             . exact h2 x hx
           . exact h4 x hx⟩
theorem Zpp {e:List Nd}(h:Zb e=0):Zo e=0/\Y3 e = []:=by
 unfold Zb at h;split at h
 . cases h
 . split at h
   . rename_i h1 h2;obtain ⟨h3,h4⟩:=Z4q e _ _ _ _ h2;rw [show piece e 0 e.length=e from by simp [piece]] at h3 h4;refine ⟨(Xd e).2 ⟨by omega,h3⟩,?_⟩;unfold Y3;rw [List.map_eq_nil_iff,List.filter_eq_nil_iff];intro x hx;have:=h4 x hx;simpa using this
   . cases h
end Go.Proofs.YtpheiojmcafolaaGreatDoor
namespace Go.Proofs.YtpheiojmcafolaaGreatDoor
open Go.RowKit Go.Sort
def Uz (ss:List (List UInt8)):List (List UInt8):=ss.mergeSort λx y=>decide (x<=y)
end Go.Proofs.YtpheiojmcafolaaGreatDoor
namespace Go.Proofs.YtpheiojmcafolaaGreatDoor
open Go.RowKit
end Go.Proofs.YtpheiojmcafolaaGreatDoor
namespace Go.Proofs.YtpheiojmcafolaaGreatDoor
open Go.RowKit Go.Sort
theorem Zbp:∀a b:List UInt8,Lib.compareBytes a b < 0 ↔ a < b
 | [],[]=>by simp [Lib.compareBytes]
 | [],_ :: _=>by simp [Lib.compareBytes]
 | _ :: _,[]=>by simp [Lib.compareBytes]
 | a :: l,b :: l2=>by
  rw [Lib.compareBytes,List.cons_lt_cons_iff,<-Zbp l l2];by_cases h1:a < b
  . simp [h1]
  . rw [if_neg h1];by_cases h2:b < a
    . rw [if_pos h2];have:¬a=b:=λe=>by subst e;exact h1 h2
      simp [h1,this]
    . have:a=b:=UInt8.le_antisymm (UInt8.not_lt.1 h2) (UInt8.not_lt.1 h1);simp [this]
theorem Zio:∀a b:List UInt8,0 < Lib.compareBytes a b ↔ b < a
 | [],[]=>by simp [Lib.compareBytes]
 | [],_ :: _=>by simp [Lib.compareBytes]
 | _ :: _,[]=>by simp [Lib.compareBytes]
 | a :: l,b :: l2=>by
  rw [Lib.compareBytes,List.cons_lt_cons_iff,<-Zio l l2];by_cases h1:a < b
  . have h2:¬b < a:=λh=>UInt8.lt_irrefl a (UInt8.lt_trans h1 h);have:¬b=a:=λe=>by subst e;exact UInt8.lt_irrefl b h1
    simp [h1,h2,this]
  . rw [if_neg h1];by_cases h2:b < a
    . simp [h2]
    . have:b=a:=UInt8.le_antisymm (UInt8.not_lt.1 h1) (UInt8.not_lt.1 h2);simp [this]
theorem Zcf {a b:List UInt8}(h:a<=b):a < b\/a=b:=by
 by_cases hl:a < b
 . exact .inl hl
 . exact .inr (List.le_antisymm h (List.not_lt.1 hl))
theorem Z2v {t:Zgd}{xs:List Nd}(h:Ex t xs):([]:List UInt8) ∉ Y3 xs:=by
 induction h with
 | one n body fld hs h7 hb ih=>
  rw [Qy,List.mem_append];rintro (h | h)
  . split at h
    . rename_i h8;have h8:n.op=8:=(by simpa using h8);have hn:n.s.toList = []:=(by simpa using (List.mem_singleton.1 h).symm);rw [Zx,if_neg (by omega),if_neg (by omega),if_pos h8,hn] at hs;simp [Xb,Zf] at hs
    . cases h
  . exact ih h
 | nil r l=>simp [Y3]
 | cons c r l m xs ys hl hx hy ih1 ih2=>
  rw [Zbc,List.mem_append];rintro (h | h)
  . exact ih1 h
  . exact ih2 h
theorem Zoq {e:List Nd}(h:Zo e=0):([]:List UInt8) ∉ Y3 e:=Z2v ((Xd e).1 h).2
end Go.Proofs.YtpheiojmcafolaaGreatDoor
namespace Go.Proofs.YtpheiojmcafolaaGreatDoor
open Go.RowKit
structure Ud where
 ty:ByteArray
 id:ByteArray
structure Sc where
 op:Int
 ty:ByteArray
 uid:Ud
structure Cd where
 unless_:Bool
 expr:List Nd
structure Po where
 name:ByteArray
 forbid:Bool
 who:Sc
 act:Sc
 what:Sc
 conds:List Cd
def Zw (u:Ud):Int:=if Zf u.ty.toList=0 then Yi u.id.toList else Zf u.ty.toList
def Qz (u:Ud):Bool:=Zw u==0
def emp (s:ByteArray):Bool:=decide (s.toList = [])
def V2 (u:Ud):Bool:=emp u.ty && emp u.id
def Vv (s:Sc)(slot:Bool):Bool:=
 if s.op=0 then V2 s.uid && emp s.ty
 else if s.op=5\/s.op=6 then slot && (V2 s.uid && emp s.ty)
 else if s.op=1\/s.op=2 then Qz s.uid && emp s.ty
 else if s.op=3 then Zf s.ty.toList==0 && V2 s.uid
 else if s.op=4 then Zf s.ty.toList==0 && Qz s.uid
 else false
def Z34 (l:List UInt8):Bool:=l.head? == some 63
def Zer (x:Nd):Bool:=x.op==8 && Z34 x.s.toList
def Xe (e:List Nd):Int:=if Zo e≠0 then Zo e else if e.any Zer=true then 1 else 0
def V8:List Cd->Int
 | []=>0
 | c :: r=>if Xe c.expr≠0 then Xe c.expr else V8 r
def Ys (p:Po):Int:=
 if Zf p.name.toList≠0 then Zf p.name.toList
 else if Vv p.who true=false\/Vv p.act false=false\/Vv p.what true=false then 1
 else if 4 < p.conds.length then 4
 else V8 p.conds
theorem Zlt {e:List Nd}{t:List UInt8}:t∈Y3 e ↔ ∃x,x∈e/\(x.op==8)=true/\x.s.toList=t:=by
 simp only [Y3,List.mem_map,List.mem_filter,and_assoc]
def Yh (k:Int):Value:=if k=0 then .nilIface else .iface 96 (.int .i64 k)
theorem Zv:Yh 0=.nilIface:=rfl
theorem Uh {k:Int}(h:¬k=0):Yh k=.iface 96 (.int .i64 k):=by simp [Yh,h]
theorem Zev:Tryz.prog.underlying 27=some (.interface (Tryz.prog.methodsAt 27)):=by kernel_rfl
@[go_sem] theorem run_eql_errV (k:Int) (w:World):(binOp .eql 27 (Yh k) .nilIface).run Tryz.prog w=.ok (.bool (k==0)) w:=by
 by_cases h:k=0
 . subst h;rw [Zv,run_eql_nil_nil w _ Zev];rfl
 . rw [Uh h,run_eql_held_nil w _ _ _ Zev];simp [h]
@[go_sem] theorem run_guard_errV (op:BinOp) (t:TypeId) (x:Operand) (c:Value) (k:Int) (w:World):(eqGuard op t x (.const c) (Yh k) .nilIface).run Tryz.prog w=.ok () w:=by
 by_cases h:k=0
 . subst h;rw [Zv];cases op <;> simp [eqGuard]
 . rw [Uh h];cases op <;> simp [eqGuard]
@[go_sem] theorem run_neq_errV (k:Int) (w:World):(binOp .neq 27 (Yh k) .nilIface).run Tryz.prog w=.ok (.bool (k != 0)) w:=by
 by_cases h:k=0
 . subst h;rw [Zv,run_neq_nil_nil w _ Zev];rfl
 . rw [Uh h,run_neq_held_nil w _ _ _ Zev];simp [h]
set_option maxRecDepth 100000 in
theorem Kf (b:Int)(w:World) :
 Calls Tryz.prog 97 #[.int .u8 b] w λe w'=>e=.returned (.bool (Jp b))/\w=w':=by
 go_enter Tryz.func97,Tryz.ntmps97
 go_wp2
 all_goals (go_ret;exact ⟨Vj (by rw [Bool.eq_iff_iff];simp [Jp];omega),rfl⟩)
set_option maxRecDepth 100000 in
theorem Zir (b:Int)(w:World) :
 Calls Tryz.prog 98 #[.int .u8 b] w λe w'=>e=.returned (.bool (Zd9 b))/\w=w':=by
 go_enter Tryz.func98,Tryz.ntmps98
 go_wp2
 all_goals (go_ret;exact ⟨Vj (by rw [Bool.eq_iff_iff];simp [Zd9];omega),rfl⟩)
set_option maxRecDepth 100000 in
theorem Yw (s:ByteArray)(w:World)(hs:s.size<=140737488351232) :
 Calls Tryz.prog 65 #[.string s] w λe w'=>e=.returned (Yh (Zf s.toList))/\Below w.heap.size w w':=by
 obtain ⟨cap,w1,hconv,hcell,hbel⟩:=Zbk (P:=Tryz.prog) w 9 163 5 s Tryz.underlying9 Tryz.underlying163 Tryz.underlying5;have HC:=Ld hcell;have HB:=Ld hbel;clear hcell hbel;by_cases h0:0 < s.size
 . have h0':s.toList.isEmpty=false:=Zks h0;obtain ⟨l,hl0⟩:=Zb7 h0;have HL:=Ld hl0;clear hl0;by_cases hl:Jp (s[0].toNat:Int)=true
   . go_enter Tryz.func65,Tryz.ntmps65
     go_wp2_with (go_at_call 97;refine (Kf _ _).mono ?_;rintro e w' ⟨rfl,rfl⟩)
     go_loop [17] (λi=>∃k:Nat,k<=s.size/\i=.int .i64 k/\Hid ((s.toList.take k).all Qo=true)) (λi=>s.size - (intOf i).toNat)
     case atStart=>exact ⟨0,by omega,rfl,by simp [Hid]⟩
     case round=>
      obtain ⟨k,hk,rfl,HK⟩:=hrel;by_cases hlt:k < s.size
      . have hc:=HC.out k hlt;have hg:=Ub s k hlt;have HG:=Ld hg;clear hg;by_cases h1:Jp (s[k].toNat:Int)=true
        . go_wp2_with (go_at_call 97;refine (Kf _ _).mono ?_;rintro e w' ⟨rfl,rfl⟩)
          go_round
          case rel=>exact ⟨k+1,by omega,by go_num,Ziz _ _ _ _ HK.out HG.out (by simp [Qo,h1])⟩
          case measure=>simp [intOf];omega
        . by_cases h2:Zd9 (s[k].toNat:Int)=true
          . go_wp2_with (first | (go_at_call 97;refine (Kf _ _).mono ?_;rintro e w' ⟨rfl,rfl⟩) | (go_at_call 98;refine (Zir _ _).mono ?_;rintro e w' ⟨rfl,rfl⟩))
            go_round
            case rel=>exact ⟨k+1,by omega,by go_num,Ziz _ _ _ _ HK.out HG.out (by simp [Qo,h2])⟩
            case measure=>simp [intOf];omega
          . go_wp2_with (first | (go_at_call 97;refine (Kf _ _).mono ?_;rintro e w' ⟨rfl,rfl⟩) | (go_at_call 98;refine (Zir _ _).mono ?_;rintro e w' ⟨rfl,rfl⟩))
            go_ret
            have hb:=Zm5 s.toList Qo k s[k] HG.out (by simp [Qo,h1,h2]);exact ⟨Ue (by rw [HL.out] at hb ⊢;simp [Zf,hl,hb,Yh]),HB.out⟩
      . have hks:k=s.size:=(by omega);subst hks;have ha:s.toList.all Qo=true:=(by have:=HK.out;rwa [List.take_of_length_le (by rw [Zk];omega)] at this);have hsz:s.toList.length=s.size:=Zk s;have HA:=Ld ha;have HZ:=Ld hsz;clear ha hsz;by_cases h20:20 < s.size
        . go_wp2
          go_ret
          have ha:=HA.out;have hz:=HZ.out;exact ⟨Ue (by rw [HL.out] at ha hz ⊢;simp [Zf,hl,ha,Yh,hz,h20]),HB.out⟩
        . go_wp2
          go_ret
          have ha:=HA.out;have hz:=HZ.out;exact ⟨Ue (by rw [HL.out] at ha hz ⊢;simp [Zf,hl,ha,Yh,hz,h20]),HB.out⟩
   . go_enter Tryz.func65,Tryz.ntmps65
     go_wp2_with (go_at_call 97;refine (Kf _ _).mono ?_;rintro e w' ⟨rfl,rfl⟩)
     go_ret
     exact ⟨Ue (by rw [HL.out];simp [Zf,hl,Yh]),Below.refl _ _⟩
 . have h0':=Zii h0;have h0'':s.toList.isEmpty=true:=by rw [h0'];rfl
   have HL:=Ld h0';clear h0';go_enter Tryz.func65,Tryz.ntmps65
   go_wp2_with fail
   go_ret
   exact ⟨Ue (by rw [HL.out];simp [Zf,Yh]),Below.refl _ _⟩
set_option maxRecDepth 100000 in
theorem Ju (s:ByteArray)(w:World)(hs:s.size<=140737488351232) :
 Calls Tryz.prog 125 #[.string s] w λe w'=>e=.returned (Yh (Yi s.toList))/\Below w.heap.size w w':=by
 obtain ⟨cap,w1,hconv,hcell,hbel⟩:=Zbk (P:=Tryz.prog) w 9 163 5 s Tryz.underlying9 Tryz.underlying163 Tryz.underlying5;have HC:=Ld hcell;have HB:=Ld hbel;have HZ:=Ld (Zk s);clear hcell hbel;by_cases h60:60 < s.size
 . go_enter Tryz.func125,Tryz.ntmps125
   go_wp2_with fail
   go_ret
   have hz:=HZ.out;exact ⟨Ue (by simp [Yi,hz,h60,Yh]),Below.refl _ _⟩
 . go_enter Tryz.func125,Tryz.ntmps125
   go_wp2_with fail
   go_loop [12] (λi=>∃k:Nat,k<=s.size/\i=.int .i64 k/\Hid ((s.toList.take k).all Zbu=true)) (λi=>s.size - (intOf i).toNat)
   case atStart=>exact ⟨0,by omega,rfl,by simp [Hid]⟩
   case round=>
    obtain ⟨k,hk,rfl,HK⟩:=hrel;by_cases hlt:k < s.size
    . have hc:=HC.out k hlt;have HG:=Ld (Ub s k hlt);by_cases h1:(s[k].toNat:Int) < 32
      . go_wp2_with fail
        go_ret
        have hb:=Zm5 s.toList Zbu k s[k] HG.out (by simp [Zbu];omega);have hz:=HZ.out;exact ⟨Ue (by simp [Yi,hz,h60,hb,Yh]),HB.out⟩
      . by_cases h2:126 < (s[k].toNat:Int)
        . go_wp2_with fail
          go_ret
          have hb:=Zm5 s.toList Zbu k s[k] HG.out (by simp [Zbu];omega);have hz:=HZ.out;exact ⟨Ue (by simp [Yi,hz,h60,hb,Yh]),HB.out⟩
        . go_wp2_with fail
          go_round
          case rel=>exact ⟨k+1,by omega,by go_num,Ziz _ _ _ _ HK.out HG.out (by simp [Zbu];omega)⟩
          case measure=>simp [intOf];omega
    . have hks:k=s.size:=(by omega);subst hks;have HA:Hid (s.toList.all Zbu=true):=(by have:=HK.out;rwa [List.take_of_length_le (by rw [Zk];omega)] at this);go_wp2_with fail
      go_ret
      have ha:=HA.out;have hz:=HZ.out;exact ⟨Ue (by simp [Yi,hz,h60,ha,Yh]),HB.out⟩
end Go.Proofs.YtpheiojmcafolaaGreatDoor
namespace Go.Proofs
open Go.Shelf
open Go.RowKit in
open Go.RowKit in
open Go.RowKit in
open Go.RowKit in
open Go.RowKit in
open Go.RowKit in
def Tryz.lays106_ren:Go.Shelf.Ren:=⟨fun | 106=>134 | 213=>163 | 265=>194 | n=>n,fun | 9=>9 | 3=>3 | n=>n,fun | n=>n⟩
theorem Tryz.lays106:Go.Proofs.Lays.n106 Tryz.prog Tryz.lays106_ren:={
 mixed:=by kernel_rfl
 f106:=Tryz.func134.trans (congrArg some (by kernel_rfl))
 f213:=Tryz.func163.trans (congrArg some (by kernel_rfl))
 f265:=Tryz.func194.trans (congrArg some (by kernel_rfl))
 t3:=Tryz.underlying3
 a3:=Tryz.isAgg3
 z3:=Tryz.sizeOf3
 v3:=Tryz.zeroValue3
 t9:=Tryz.underlying9
 a9:=Tryz.isAgg9
 z9:=Tryz.sizeOf9
 v9:=Tryz.zeroValue9 }
open Go.RowKit in
theorem Tryz.strings_Compare (a b:ByteArray)(w:World) :
 Calls Tryz.prog 134 #[.string a,.string b] w λe w'=>e=.returned (.int .i64 (Lib.compareBytes a.data.toList b.data.toList))/\w'=w:=Any.strings_Compare Tryz.lays106 a b w
open Go.RowKit in
open Go.RowKit in
open Go.RowKit in
open Go.RowKit in
open Go.RowKit in
open Go.RowKit in
open Go.RowKit in
open Go.RowKit in
open Go.RowKit in
open Go.RowKit in
open Go.RowKit in
open Go.RowKit Go.Lib in
open Go.RowKit Go.Lib in
open Go.RowKit Go.Lib in
open Go.RowKit Go.Lib in
open Go.RowKit Go.Lib in
open Go.RowKit Go.Lib in
open Go.RowKit Go.Lib in
open Go.RowKit Go.Lib in
def Tryz.lays138_ren:Go.Shelf.Ren:=⟨fun | 138=>304 | 195=>305 | 218=>306 | 143=>307 | 219=>308 | 217=>309 | 225=>310 | 224=>311 | 267=>312 | 266=>313 | 314=>314 | n=>n,fun | 9=>9 | 3=>3 | 4=>4 | 5=>5 | 0=>0 | 46=>243 | 146=>401 | 51=>225 | n=>n,fun | 1=>1 | n=>n⟩
theorem Tryz.lays138:Go.Proofs.Lays.n138 Tryz.prog Tryz.lays138_ren:={
 mixed:=by kernel_rfl
 f138:=Tryz.func304.trans (congrArg some (by kernel_rfl))
 f143:=Tryz.func307.trans (congrArg some (by kernel_rfl))
 f195:=Tryz.func305.trans (congrArg some (by kernel_rfl))
 f217:=Tryz.func309.trans (congrArg some (by kernel_rfl))
 f218:=Tryz.func306.trans (congrArg some (by kernel_rfl))
 f219:=Tryz.func308.trans (congrArg some (by kernel_rfl))
 f224:=Tryz.func311.trans (congrArg some (by kernel_rfl))
 f225:=Tryz.func310.trans (congrArg some (by kernel_rfl))
 f266:=Tryz.func313.trans (congrArg some (by kernel_rfl))
 f267:=Tryz.func312.trans (congrArg some (by kernel_rfl))
 f314:=Tryz.func314.trans (congrArg some (by kernel_rfl))
 t0:=Tryz.underlying0
 a0:=Tryz.isAgg0
 z0:=Tryz.sizeOf0
 v0:=Tryz.zeroValue0
 t3:=Tryz.underlying3
 a3:=Tryz.isAgg3
 z3:=Tryz.sizeOf3
 v3:=Tryz.zeroValue3
 t4:=Tryz.underlying4
 a4:=Tryz.isAgg4
 z4:=Tryz.sizeOf4
 v4:=Tryz.zeroValue4
 t5:=Tryz.underlying5
 a5:=Tryz.isAgg5
 z5:=Tryz.sizeOf5
 v5:=Tryz.zeroValue5
 t9:=Tryz.underlying9
 a9:=Tryz.isAgg9
 z9:=Tryz.sizeOf9
 v9:=Tryz.zeroValue9
 t46:=Tryz.underlying243
 a46:=Tryz.isAgg243
 z46:=Tryz.sizeOf243
 v46:=Tryz.zeroValue243
 t51:=Tryz.underlying225
 a51:=Tryz.isAgg225
 z51:=Tryz.sizeOf225
 v51:=Tryz.zeroValue225
 t146:=Tryz.underlying401
 a146:=Tryz.isAgg401
 z146:=Tryz.sizeOf401
 v146:=Tryz.zeroValue401
 g1:=by kernel_rfl }
open Go.RowKit Go.Lib in
theorem Tryz.strings_Count_one (s:ByteArray)(c:UInt8)(w:World) :
 Calls Tryz.prog 304 #[.string s,.string ⟨#[c]⟩] w λe w'=>e=.returned (.int .i64 (Lib.countByte s.data.toList c))/\w'=w:=Any.strings_Count_one Tryz.lays138 s c w
open Go.RowKit Go.Lib in
open Go.RowKit Go.Lib in
open Go.RowKit Go.Lib in
open Go.RowKit Go.Lib in
def Tryz.lays190_ren:Go.Shelf.Ren:=⟨fun | 190=>196 | 125=>162 | 258=>214 | 128=>192 | 129=>193 | 302=>222 | 303=>223 | 304=>224 | 305=>225 | 306=>226 | 307=>227 | 308=>228 | 309=>229 | 310=>230 | 333=>241 | 329=>209 | 330=>210 | 334=>242 | 335=>243 | 336=>244 | 344=>253 | n=>n,fun | 31=>23 | 9=>9 | 3=>3 | 46=>243 | 0=>0 | 51=>225 | 53=>219 | 4=>4 | 183=>276 | 182=>275 | 131=>168 | 5=>5 | 218=>312 | 222=>316 | 228=>334 | 229=>335 | n=>n,fun | n=>n⟩
theorem Tryz.lays190:Go.Proofs.Lays.n190 Tryz.prog Tryz.lays190_ren:={
 mixed:=by kernel_rfl
 f125:=Tryz.func162.trans (congrArg some (by kernel_rfl))
 f128:=Tryz.func192.trans (congrArg some (by kernel_rfl))
 f129:=Tryz.func193.trans (congrArg some (by kernel_rfl))
 f190:=Tryz.func196.trans (congrArg some (by kernel_rfl))
 f258:=Tryz.func214.trans (congrArg some (by kernel_rfl))
 f302:=Tryz.func222.trans (congrArg some (by kernel_rfl))
 f303:=Tryz.func223.trans (congrArg some (by kernel_rfl))
 f304:=Tryz.func224.trans (congrArg some (by kernel_rfl))
 f305:=Tryz.func225.trans (congrArg some (by kernel_rfl))
 f306:=Tryz.func226.trans (congrArg some (by kernel_rfl))
 f307:=Tryz.func227.trans (congrArg some (by kernel_rfl))
 f308:=Tryz.func228.trans (congrArg some (by kernel_rfl))
 f309:=Tryz.func229.trans (congrArg some (by kernel_rfl))
 f310:=Tryz.func230.trans (congrArg some (by kernel_rfl))
 f329:=Tryz.func209.trans (congrArg some (by kernel_rfl))
 f330:=Tryz.func210.trans (congrArg some (by kernel_rfl))
 f333:=Tryz.func241.trans (congrArg some (by kernel_rfl))
 f334:=Tryz.func242.trans (congrArg some (by kernel_rfl))
 f335:=Tryz.func243.trans (congrArg some (by kernel_rfl))
 f336:=Tryz.func244.trans (congrArg some (by kernel_rfl))
 f344:=Tryz.func253.trans (congrArg some (by kernel_rfl))
 t0:=Tryz.underlying0
 a0:=Tryz.isAgg0
 z0:=Tryz.sizeOf0
 v0:=Tryz.zeroValue0
 t3:=Tryz.underlying3
 a3:=Tryz.isAgg3
 z3:=Tryz.sizeOf3
 v3:=Tryz.zeroValue3
 t4:=Tryz.underlying4
 a4:=Tryz.isAgg4
 z4:=Tryz.sizeOf4
 v4:=Tryz.zeroValue4
 t5:=Tryz.underlying5
 a5:=Tryz.isAgg5
 z5:=Tryz.sizeOf5
 v5:=Tryz.zeroValue5
 t9:=Tryz.underlying9
 a9:=Tryz.isAgg9
 z9:=Tryz.sizeOf9
 v9:=Tryz.zeroValue9
 t31:=Tryz.underlying23
 a31:=Tryz.isAgg23
 z31:=Tryz.sizeOf23
 v31:=Tryz.zeroValue23
 t46:=Tryz.underlying243
 a46:=Tryz.isAgg243
 z46:=Tryz.sizeOf243
 v46:=Tryz.zeroValue243
 t51:=Tryz.underlying225
 a51:=Tryz.isAgg225
 z51:=Tryz.sizeOf225
 v51:=Tryz.zeroValue225
 t53:=Tryz.underlying219
 a53:=Tryz.isAgg219
 z53:=Tryz.sizeOf219
 v53:=Tryz.zeroValue219
 t131:=Tryz.underlying168
 a131:=Tryz.isAgg168
 z131:=Tryz.sizeOf168
 v131:=Tryz.zeroValue168
 t182:=Tryz.underlying275
 a182:=Tryz.isAgg275
 z182:=Tryz.sizeOf275
 v182:=Tryz.zeroValue275
 t183:=Tryz.underlying276
 a183:=Tryz.isAgg276
 z183:=Tryz.sizeOf276
 v183:=Tryz.zeroValue276
 t218:=Tryz.underlying312
 a218:=Tryz.isAgg312
 z218:=Tryz.sizeOf312
 v218:=Tryz.zeroValue312
 t222:=Tryz.underlying316
 a222:=Tryz.isAgg316
 z222:=Tryz.sizeOf316
 v222:=Tryz.zeroValue316
 t228:=Tryz.underlying334
 a228:=Tryz.isAgg334
 z228:=Tryz.sizeOf334
 v228:=Tryz.zeroValue334
 t229:=Tryz.underlying335
 a229:=Tryz.isAgg335
 z229:=Tryz.sizeOf335
 v229:=Tryz.zeroValue335 }
open Go.Sort Go.RowKit in
theorem Tryz.slices_Sort_string (blk off cap:Nat)(ss:List (List UInt8))(w:World)(hH:Holds encStr w blk off ss.toArray)(hblk:blk < w.heap.size)(hsz:ss.length < 4611686018427387904) :
 Calls Tryz.prog 196 #[.slice (some ⟨blk,off,none⟩) ss.length cap] w λe w'=>
  e=.returned (.tuple #[])/\∃n os,w'=grow (putRow encStr (Sort.ahead w n) blk off (ss.mergeSort λx y=>decide (x<=y)).toArray) os:=Any.slices_Sort_string Tryz.lays190 blk off cap ss w hH hblk hsz
open Go.RowKit Go.Lib in
open Go.RowKit Go.Lib in
open Go.RowKit Go.Lib in
open Go.RowKit Go.Lib in
def Tryz.lays264_ren:Go.Shelf.Ren:=⟨fun | 264=>155 | n=>n,fun | 53=>219 | 46=>243 | n=>n,fun | n=>n⟩
theorem Tryz.lays264:Go.Proofs.Lays.n264 Tryz.prog Tryz.lays264_ren:={
 mixed:=by kernel_rfl
 f264:=Tryz.func155.trans (congrArg some (by kernel_rfl))
 t46:=Tryz.underlying243
 a46:=Tryz.isAgg243
 z46:=Tryz.sizeOf243
 v46:=Tryz.zeroValue243
 t53:=Tryz.underlying219
 a53:=Tryz.isAgg219
 z53:=Tryz.sizeOf219
 v53:=Tryz.zeroValue219 }
open Go.RowKit Go.Lib in
theorem Tryz.bits_Mul64 (x y:Nat)(hx:x < 18446744073709551616)(hy:y < 18446744073709551616)(w:World) :
 Calls Tryz.prog 155 #[.int .u64 x,.int .u64 y] w λe w'=>e=.returned (.tuple #[.int .u64 ((x*y / 18446744073709551616:Nat):Int),.int .u64 ((x*y % 18446744073709551616:Nat):Int)])/\w'=w:=Any.bits_Mul64 Tryz.lays264 x y hx hy w
def Tryz.lays109_ren:Go.Shelf.Ren:=⟨fun | 109=>104 | n=>n,fun | 31=>23 | 9=>9 | 3=>3 | 0=>0 | 4=>4 | n=>n,fun | n=>n⟩
theorem Tryz.lays109:Go.Proofs.Lays.n109 Tryz.prog Tryz.lays109_ren:={
 mixed:=by kernel_rfl
 f109:=Tryz.func104.trans (congrArg some (by kernel_rfl))
 t0:=Tryz.underlying0
 a0:=Tryz.isAgg0
 z0:=Tryz.sizeOf0
 v0:=Tryz.zeroValue0
 t3:=Tryz.underlying3
 a3:=Tryz.isAgg3
 z3:=Tryz.sizeOf3
 v3:=Tryz.zeroValue3
 t4:=Tryz.underlying4
 a4:=Tryz.isAgg4
 z4:=Tryz.sizeOf4
 v4:=Tryz.zeroValue4
 t9:=Tryz.underlying9
 a9:=Tryz.isAgg9
 z9:=Tryz.sizeOf9
 v9:=Tryz.zeroValue9
 t31:=Tryz.underlying23
 a31:=Tryz.isAgg23
 z31:=Tryz.sizeOf23
 v31:=Tryz.zeroValue23 }
open Go.Lib in
theorem Tryz.slices_Index_string (b off n c:Nat)(zs:List ByteArray)(x:ByteArray)(w:World)(hz:n<=zs.length)(hbig:n<=9223372036854775807)(hc:∀j,j < zs.length->w.cell? ⟨b,off+j,none⟩=some (.string (zs.getD j ByteArray.empty))) :
 Calls Tryz.prog 104 #[.slice (some ⟨b,off,none⟩) n c,.string x] w λe w'=>e=.returned (.int .i64 (Lib.idxOfS (zs.take n) x))/\w'=w:=Any.slices_Index_string Tryz.lays109 b off n c zs x w hz hbig hc
open Go.Lib in
theorem Tryz.slices_Index_string_empty (a:Option Addr)(c:Nat)(x:ByteArray)(w:World) :
 Calls Tryz.prog 104 #[.slice a 0 c,.string x] w λe w'=>e=.returned (.int .i64 (Lib.idxOfS [] x))/\w'=w:=Any.slices_Index_string_empty Tryz.lays109 a c x w
open Go.Lib in
open Go.Lib in
open Go.RowKit Go.Lib in
open Go.RowKit Go.Sort in
theorem Tryz.slices_Sort_string_none (p:Option Addr)(cap:Nat)(w:World) :
 Calls Tryz.prog 196 #[.slice p 0 cap] w λe w'=>e=.returned (.tuple #[])/\w'=w:=Any.slices_Sort_string_none Tryz.lays190 p cap w
end Go.Proofs
namespace Go.Proofs.YtpheiojmcafolaaGreatDoor
open Go.RowKit
theorem J5 (op n:Int)(s t:ByteArray)(w:World)(hs:s.size<=140737488351232)(ht:t.size<=140737488351232) :
 Calls Tryz.prog 129 #[.agg #[.int .i64 op,.int .i64 n,.string s,.string t]] w λe w'=>e=.returned (.bool (Zj ⟨op,n,s,t⟩))/\Below w.heap.size w w':=by
 go_enter Tryz.func129,Tryz.ntmps129
 go_wp2_with (first | (go_at_call 65;refine (Yw _ _ hs).mono ?_;rintro e w1 ⟨rfl,hb⟩;obtain ⟨hc,hf⟩:=Xi hb) | (go_at_call 125;refine (Ju _ _ (by assumption)).mono ?_;rintro e w2 ⟨rfl,hb2⟩))
 all_goals
  go_ret
  refine ⟨Vj ?_,?_⟩
  . simp only [beq_iff_eq,beq_eq_false_iff_ne] at *;simp [Zj, *] <;> omega
  . first
     | exact (Below.refl _ _).alloc (nL _) _
     | exact ((Below.refl _ _).alloc (nL _) _).trans (hb.mono (by simp))
     | exact ((Below.refl _ _).alloc (nL _) _).trans (hb2.mono (by simp))
     | exact (((Below.refl _ _).alloc (nL _) _).trans (hb.mono (by simp))).trans (hb2.mono (by have:=hb.size;simp at this;omega))
end Go.Proofs.YtpheiojmcafolaaGreatDoor
namespace Go.Proofs.YtpheiojmcafolaaGreatDoor
open Go.RowKit
theorem Zgi (a b:Int)(w:World) :
 Calls Tryz.prog 183 #[.int .i64 a,.int .i64 b] w λe w'=>e=.returned (.int .i64 (Zfa a b))/\w=w':=by
 go_enter Tryz.func183,Tryz.ntmps183
 go_wp2
 all_goals (go_ret;exact ⟨Xn (by simp [Zfa];omega),rfl⟩)
theorem Z4y (b o c:Nat)(l:List Int)(w:World)(hl:l.length<=1000)(hc:∀i,i < l.length->w.cell? ⟨b,o+i,none⟩=some (.int .i64 (l.getD i 0))) :
 Calls Tryz.prog 182 #[.slice (some ⟨b,o,none⟩) l.length c] w λe w'=>e=.returned (.int .i64 (orI l))/\w=w':=by
 have HC:=Ld hc;clear hc;go_enter Tryz.func182,Tryz.ntmps182
 go_wp2_with fail
 go_loop [8] (λi=>∃k:Nat,k<=l.length/\i=.int .i64 k/\Hid (orI l=orI (l.drop k))) (λi=>l.length - (intOf i).toNat)
 case atStart=>exact ⟨0,by omega,rfl,rfl⟩
 case round=>
  obtain ⟨k,hk,rfl,HK⟩:=hrel;by_cases hlt:k < l.length
  . have hcell:=HC.out k hlt;have HD:Hid (l.drop k=l.getD k 0 :: l.drop (k+1)):=by
     show _=_;rw [List.drop_eq_getElem_cons hlt];simp [List.getD,hlt]
    obtain ⟨x,hx⟩:∃x,x=l.getD k 0:=⟨_,rfl⟩;rw [<-hx] at hcell;have HX:=Ld hx;clear hx;by_cases h0:x=0
    . have h0':(x != 0)=false:=(by simp [h0]);go_wp2_with fail
      go_round
      case rel=>exact ⟨k+1,by omega,by go_num,HK.out.trans (by rw [HD.out,<-HX.out];simp [orI,h0])⟩
      case measure=>simp [intOf];omega
    . have h0':(x != 0)=true:=(by simp [h0]);go_wp2_with fail
      go_ret
      exact ⟨Xn (by rw [HK.out,HD.out,<-HX.out];simp [orI,h0]),rfl⟩
  . have:l.drop k = []:=List.drop_eq_nil_of_le (by omega);have HD:=Ld this;clear this;go_wp2_with fail
    go_ret
    exact ⟨Xn (by rw [HK.out,HD.out];rfl),rfl⟩
theorem Ztm (b c:Nat)(p q r s:Int)(w:World)(h0:w.cell? ⟨b,0,none⟩=some (.int .i64 p))(h1:w.cell? ⟨b,1,none⟩=some (.int .i64 q))(h2:w.cell? ⟨b,2,none⟩=some (.int .i64 r))(h3:w.cell? ⟨b,3,none⟩=some (.int .i64 s)) :
 Calls Tryz.prog 182 #[.slice (some ⟨b,0,none⟩) 4 c] w λe w'=>e=.returned (.int .i64 (orI [p,q,r,s]))/\w=w':=
 Z4y b 0 c [p,q,r,s] w (by simp) (λi hi=>by
  match i,hi with
  | 0,_=>exact h0
  | 1,_=>exact h1
  | 2,_=>exact h2
  | 3,_=>exact h3
  | n+4,hi=>simp at hi;omega)
theorem Zn1 (x y:Nd)(w:World) :
 Calls Tryz.prog 160 #[.agg #[.int .i64 x.op,.int .i64 x.n,.string x.s,.string x.t],.agg #[.int .i64 y.op,.int .i64 y.n,.string y.s,.string y.t]] w λe w'=>e=.returned (.int .i64 (Jn x y))/\Below w.heap.size w w':=by
 go_enter Tryz.func160,Tryz.ntmps160
 go_wp2_with fail
 go_region_held3 (λw'=>w'.cell? ⟨w.heap.size,0,none⟩=some (.int .i64 x.op)/\w'.cell? ⟨w.heap.size,1,none⟩=some (.int .i64 x.n)/\w'.cell? ⟨w.heap.size,2,none⟩=some (.string x.s)/\w'.cell? ⟨w.heap.size,3,none⟩=some (.string x.t)/\w'.cell? ⟨w.heap.size+1,0,none⟩=some (.int .i64 y.op)/\w'.cell? ⟨w.heap.size+1,1,none⟩=some (.int .i64 y.n)/\w'.cell? ⟨w.heap.size+1,2,none⟩=some (.string y.s)/\w'.cell? ⟨w.heap.size+1,3,none⟩=some (.string y.t)) (simp [go_sem,World.cell?_alloc_past])
  (first
   | (go_at_call 183;refine (Zgi _ _ _).mono ?_;rintro e w' ⟨rfl,rfl⟩)
   | (go_at_call 134;refine (Tryz.strings_Compare _ _ _).mono ?_;rintro e w' ⟨rfl,rfl⟩)
   | (go_at_call 182;refine (Ztm _ _ (Zfa x.op y.op) (Zfa x.n y.n) (Lib.compareBytes x.s.data.toList y.s.data.toList) (Lib.compareBytes x.t.data.toList y.t.data.toList) _ (by simp [go_sem]) (by simp [go_sem]) (by simp [go_sem]) (by simp [go_sem])).mono ?_;rintro e w' ⟨rfl,rfl⟩))
 all_goals go_wp2
 all_goals go_ret
 all_goals exact ⟨rfl,by (repeat (first | assumption | exact bR | apply bD | apply Za | refine bA ?_ _))⟩
theorem Zn3 (A1 A2:Option Addr)(c1 c2:Nat)(xs ys:List Nd)(w:World)(h1:Ye w w.heap.size A1 xs)(h2:Ye w w.heap.size A2 ys)(l1:xs.length<=9223372036854775807)(l2:ys.length<=9223372036854775807) :
 Calls Tryz.prog 159 #[.slice A1 xs.length c1,.slice A2 ys.length c2,.func (.func 160) #[] #[]] w λe w'=>e=.returned (.int .i64 (Zz xs ys))/\Below w.heap.size w w':=by
 have H1:=Ld h1;have H2:=Ld h2;clear h1 h2;go_enter Tryz.func159,Tryz.ntmps159
 go_wp2_with fail
 go_loopw [13] (λi wr=>∃k:Nat,k<=xs.length/\k<=ys.length/\i=.int .i64 k/\Hid (Zz xs ys=Zz (xs.drop k) (ys.drop k))/\Below w.heap.size w wr) (λi _=>xs.length - (intOf i).toNat)
 case atStart=>exact ⟨0,by omega,by omega,rfl,rfl,Below.refl _ _⟩
 case round=>
  obtain ⟨k,hk,hk2,rfl,HK,hbel⟩:=hrel;have hwr:=hbel.size;by_cases hlt:k < xs.length
  . obtain ⟨b,o,rfl,hbl,hc⟩:=(H1.out.below hbel).at_ hlt;obtain ⟨x,hx⟩:∃x,xs[k]? = some x:=⟨_,gE hlt⟩;obtain ⟨d0,d1,d2,d3⟩:=hc k x hx;have HX:Hid (xs.drop k=x :: xs.drop (k+1)):=by
     show _=_;rw [List.drop_eq_getElem_cons hlt];rw [gE hlt] at hx;injection hx with hx;rw [hx]
    clear hc hx;by_cases hlt2:k < ys.length
    . obtain ⟨b2,o2,rfl,hbl2,hc⟩:=(H2.out.below hbel).at_ hlt2;obtain ⟨y,hy⟩:∃y,ys[k]? = some y:=⟨_,gE hlt2⟩;obtain ⟨e0,e1,e2,e3⟩:=hc k y hy;have HY:Hid (ys.drop k=y :: ys.drop (k+1)):=by
       show _=_;rw [List.drop_eq_getElem_cons hlt2];rw [gE hlt2] at hy;injection hy with hy;rw [hy]
      clear hc hy;have hwr:=hbel.size;have g1:b < wr.heap.size:=(by omega);have g2:b2 < wr.heap.size:=(by omega);go_wp2_with (go_at_call 160;refine (Zn1 x y _).mono ?_;rintro e w1 ⟨rfl,hb1⟩)
      . go_ret
        have hne:(Jn x y != 0)=true:=(by assumption);have hne':¬Jn x y=0:=(by simpa using hne);exact ⟨Xn (by rw [HK.out,HX.out,HY.out,Zz,if_neg hne']),hbel.trans ((by (repeat (first | assumption | exact bR | apply bD | apply Za | refine bA ?_ _)):Below w.heap.size wr _).trans (hb1.mono (by simp;omega)))⟩
      . have hne:(Jn x y != 0)=false:=(by assumption);have hne':Jn x y=0:=(by simpa using hne);go_roundw
        case rel=>exact ⟨k+1,by omega,by omega,by go_num,by rw [Hid,HK.out,HX.out,HY.out,Zz,if_pos hne'],hbel.trans ((by (repeat (first | assumption | exact bR | apply bD | apply Za | refine bA ?_ _)):Below w.heap.size wr _).trans (hb1.mono (by simp;omega)))⟩
        case measure=>simp [intOf];omega
    . have HY:Hid (ys.drop k = []):=List.drop_eq_nil_of_le (by omega);go_wp2_with fail
      go_ret
      exact ⟨Xn (by rw [HK.out,HX.out,HY.out];rfl),hbel.trans (by (repeat (first | assumption | exact bR | apply bD | apply Za | refine bA ?_ _)))⟩
  . have HX:Hid (xs.drop k = []):=List.drop_eq_nil_of_le (by omega);by_cases hl:xs.length < ys.length
    . have HY:Hid (∃y l,ys.drop k=y :: l):=⟨_,_,List.drop_eq_getElem_cons (by omega)⟩;go_wp2_with fail
      go_ret
      obtain ⟨y,l,hyl⟩:=HY.out;exact ⟨Xn (by rw [HK.out,HX.out,hyl];rfl),hbel⟩
    . have HY:Hid (ys.drop k = []):=List.drop_eq_nil_of_le (by omega);go_wp2_with fail
      go_ret
      exact ⟨Xn (by rw [HK.out,HX.out,HY.out];rfl),hbel⟩
theorem Zfw (A1 A2:Option Addr)(c1 c2:Nat)(xs ys:List Nd)(w:World)(h1:Ye w w.heap.size A1 xs)(h2:Ye w w.heap.size A2 ys)(l1:xs.length<=9223372036854775807)(l2:ys.length<=9223372036854775807) :
 Calls Tryz.prog 130 #[.slice A1 xs.length c1,.slice A2 ys.length c2] w λe w'=>e=.returned (.int .i64 (Zz xs ys))/\Below w.heap.size w w':=by
 have H1:=Ld h1;have H2:=Ld h2;clear h1 h2;go_enter Tryz.func130,Tryz.ntmps130
 go_wp2_with (go_at_call 159;refine (Zn3 A1 A2 c1 c2 xs ys _ H1.out H2.out l1 l2).mono ?_;rintro e w1 ⟨rfl,hb1⟩)
 go_ret
 exact ⟨rfl,hb1⟩
end Go.Proofs.YtpheiojmcafolaaGreatDoor
