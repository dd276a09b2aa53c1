/-
 THE WALKS: strings.NewReplacer. THE WALKS: (*strings.Replacer).build. THE WALKS: (*strings.Replacer).buildOnce. THE WALKS: (*strings.byteStringReplacer).Replace. THE WALKS: sync.Once, one goroutine. THE WALKS: (*strings.Replacer).Replace of a fresh replacer; name.Quote.
-/
import Derived.LoopN
import Derived.Laws.IdiomStrings
import Derived.Deep.WholeRow
import Derived.Test.YtpheiojmcafolaaGreatDoorSz04
import Derived.Deep.DeepCutAuto
import Derived.Laws.CopyOwn
import Derived.IntWalk
import Derived.Conc.MuLone
import Derived.Conc.MuData
import Derived.RegionCalls
import Derived.Defers
import Derived.Laws.LoneSync
set_option maxRecDepth 100000
set_option maxHeartbeats 25600000
namespace Go.Proofs.YtpheiojmcafolaaGreatDoor
open Go.RowKit Go.Sort
theorem Zd4:(Tryz.prog.info? 9).map (λi=>(i.zero,i.size,i.bytes))=some (some (.string ⟨#[]⟩),1,16):=by kernel_rfl
def Zst:List (List UInt8):=[[92],[92,92],[34],[92,34]]
theorem Zwv {w:World}{base:Nat}{v:Value}{n:Nat}{ss:List (List UInt8)}(h:w.ownsRow base 9 1 v n (ss.map encStr))(hn:n=ss.length) :
 ∃A c,v=.slice A n c/\n<=c/\c<=9223372036854775807/\Y2 w w.heap.size A ss:=by
 subst hn;rcases h.2 with ⟨hv,h0⟩ | ⟨g,cap,cur,hv,hbase,hb,h1,h2,h3,h4⟩
 . have:ss = []:=List.eq_nil_of_length_eq_zero h0;subst this;exact ⟨none,0,hv,by simp,by omega,Y2.nil _ _ _⟩
 . subst hv;unfold maxLen at h2;refine ⟨_,cap,rfl,h1,h2,λ_=>⟨g,0,rfl,(Array.getElem?_eq_some_iff.1 hb).1,λi l hl=>?_⟩⟩;have hi:=(List.getElem?_eq_some_iff.1 hl).1;rw [Nat.zero_add,h.cellAt i (by omega),List.getElem?_map,hl];rfl
def Z0l (w:World)(r:Nat):Prop:=
 ∃A c,Blk w r 237 #[.int .u32 0,.int .i32 0,.int .u32 0,.nilIface,.slice A 4 c]/\Y2 w r A Zst
set_option maxRecDepth 100000 in
theorem Z1z (b:Nat)(w:World)(_hb:b < w.heap.size)(hc:∀i l,Zst[i]? = some l->w.cell? ⟨b,i,none⟩=some (encStr l)) :
 Calls Tryz.prog 126 #[.slice (some ⟨b,0,none⟩) 4 4] w λe w'=>∃r,e=.returned (.pointer (some ⟨r,0,none⟩))/\w.heap.size<=r/\Z0l w' r/\Below w.heap.size w w':=by
 obtain ⟨i0,hi,hz0,hz1,hz2⟩:=info_parts Zd4;have hnews:∀j u,(Zst.map encStr)[j]? = some u->w.cell? ((⟨b,0,none⟩:Addr).add j)=some u:=by
  intro j u hu;rw [List.getElem?_map] at hu;cases hq:Zst[j]? with
  | none=>rw [hq] at hu;simp at hu
  | some l=>
   rw [hq] at hu;simp at hu;subst hu;have:=hc j l hq;unfold Addr.add;split
   . rename_i h0;subst h0;exact this
   . rw [Nat.zero_add];exact this
 have hone:∀u∈Zst.map encStr,u.oneCell'=true:=by
  intro u hu;obtain ⟨l,_,rfl⟩:=List.mem_map.1 hu;rfl
 go_enter Tryz.func126,Tryz.ntmps126
 go_wp2_with (at_builtin;refine wpList_append_own _ rfl (.const (.slice none 0 0)) (.tmp 8) 23 rfl w.heap.size 9 i0 _ 1 16 Tryz.underlying23 hi hz0 hz1 hz2 rfl (by omega) (.slice none 0 0) 0 [] rfl (World.ownsRow_nil _ _ _ _) ⟨b,0,none⟩ 4 4 (Zst.map encStr) rfl rfl hnews hone (by unfold maxLen;omega) (by omega) (by omega) ?_)
 intro v1 w1 hown1 hgrow1 _;obtain ⟨A,c,hv,_,_,hs⟩:=Zwv hown1 rfl;subst hv;go_outline
 go_wp2_with fail
 go_ret
 refine ⟨w1.heap.size,rfl,hgrow1.size,⟨A,c,?_,?_⟩,?_⟩
 . exact Blk.new _ _ _
 . exact hs.below (Below.alloc (Below.refl w1.heap.size w1) (nL _) _)
 . exact ((Below.refl w.heap.size w).grown hgrow1 (nL _) (λk hk=>by cases hk)).alloc hgrow1.size _
theorem Z4h (v:Value)(hv:v.oneCell'=true):(Tryz.zeroCells310.setIfInBounds 256 v).all (·.oneCell')=true:=by
 rw [Array.all_eq_true_iff_forall_mem];intro x hx;rcases Array.mem_or_eq_of_mem_setIfInBounds hx with h | h
 . exact (Array.all_eq_true_iff_forall_mem.1 (by decide +kernel:Tryz.zeroCells310.all (·.oneCell')=true)) x h
 . rw [h];exact hv
theorem Zzp (w:World)(v:Value)(hv:v.oneCell'=true)(g:Nat)(hg:g=w.heap.size) :
 Sem.run Tryz.prog (storeCells ⟨g,0,none⟩ (Tryz.zeroCells310.toList.set 256 v)) (w.alloc (.cells Tryz.zeroCells310 310))=.ok () (w.alloc (.cells (Tryz.zeroCells310.setIfInBounds 256 v) 310)):=by
 subst hg;have h:=run_storeCells_new (P:=Tryz.prog) w 310 Tryz.zeroCells310 (Tryz.zeroCells310.setIfInBounds 256 v) (by rw [Array.size_setIfInBounds];kernel_rfl) (by simp) (Z4h v hv);rw [Array.toList_setIfInBounds] at h;exact h
structure Zda (w:World)(lo B g:Nat):Prop where
 ge:lo<=g
 lt:g < B
 le:B<=w.heap.size
 no:∀i,i < 256->i≠34->i≠92->w.cell? ⟨g,i,none⟩=some (.slice none 0 0)
 q:∃a c,w.cell? ⟨g,34,none⟩=some (.slice (some ⟨a,0,none⟩) 2 c)/\(lo<=a/\a < B)/\w.cell? ⟨a,0,none⟩=some (.int .u8 92)/\w.cell? ⟨a,1,none⟩=some (.int .u8 34)
 s:∃a c,w.cell? ⟨g,92,none⟩=some (.slice (some ⟨a,0,none⟩) 2 c)/\(lo<=a/\a < B)/\w.cell? ⟨a,0,none⟩=some (.int .u8 92)/\w.cell? ⟨a,1,none⟩=some (.int .u8 92)
 t:∃a,w.cell? ⟨g,256,none⟩=some (.slice (some ⟨a,0,none⟩) 2 2)/\(lo<=a/\a < B)/\w.cell? ⟨a,0,none⟩=some (.string ⟨#[34]⟩)/\w.cell? ⟨a,1,none⟩=some (.string ⟨#[92]⟩)
theorem Zda.keep {w w':World}{lo B g:Nat}(h:Zda w lo B g)(hs:w.heap.size<=w'.heap.size)(e:∀g i,lo<=g->g < B->w'.cell? ⟨g,i,none⟩=w.cell? ⟨g,i,none⟩):Zda w' lo B g:=by
 obtain ⟨h0,h1,h2,h3,⟨a,c,q1,q2,q5,q6⟩,⟨a',c',s1,s2,s5,s6⟩,⟨a'',t1,t2,t3,t4⟩⟩:=h;exact ⟨h0,h1,Nat.le_trans h2 hs,λi hi n1 n2=>(e _ _ h0 h1).trans (h3 i hi n1 n2),⟨a,c,(e _ _ h0 h1).trans q1,q2,(e _ _ q2.1 q2.2).trans q5,(e _ _ q2.1 q2.2).trans q6⟩,
  ⟨a',c',(e _ _ h0 h1).trans s1,s2,(e _ _ s2.1 s2.2).trans s5,(e _ _ s2.1 s2.2).trans s6⟩,⟨a'',(e _ _ h0 h1).trans t1,t2,(e _ _ t2.1 t2.2).trans t3,(e _ _ t2.1 t2.2).trans t4⟩⟩
theorem Blk.grown {w w':World}{g:Nat}{t:TypeId}{cs:Array Value}{row:Option Nat}(h:Blk w g t cs)(hg:w.grownBy w' row)(hn:some g≠row):Blk w' g t cs:=(hg.block g h.lt hn).trans h
theorem Ztq {w:World}{base:Nat}{e:TypeId}{size:Nat}{v:Value}{n:Nat}{xs:List Value}(h:w.ownsRow base e size v n xs){p:Addr}(hp:v.ownBlock≠some p.block)(u:Value):(w.setCell p u).ownsRow base e size v n xs:=
 h.kept (row:=some p.block) ⟨rfl,rfl,rfl,by simp [World.setCell],λk _ hk=>Below.heap_setCell _ _ _ _ (λe=>hk (by rw [e]))⟩ (.inr hp)
theorem Zym:Tryz.zeroCells310=(List.replicate 257 (.slice none 0 0)).toArray:=by kernel_rfl
theorem Z2c (i:Nat)(hi:i < 256):Tryz.zeroCells310[i]? = some (.slice none 0 0):=by
 rw [Zym,List.getElem?_toArray,List.getElem?_replicate,if_pos (by omega)]
theorem Zkv (W:World)(g:Nat)(hg:g=W.heap.size)(v:UInt8) :
 (convert 163 9 (.slice (some ⟨g,0,none⟩) 1 1)).run Tryz.prog (W.alloc (.cells #[.int .u8 v.toNat] 5))=.ok (.string ⟨#[v]⟩) (W.alloc (.cells #[.int .u8 v.toNat] 5)):=by
 subst hg;exact run_convert_bytes_back (P:=Tryz.prog) _ 163 9 5 ⟨W.heap.size,0,none⟩ 1 [v] Tryz.underlying163 Tryz.underlying5 Tryz.underlying9 (λj hj=>by
  obtain rfl:j=0:=by simp at hj;omega
  rw [Vs,Nat.zero_add,World.cell?_alloc_new];rfl)
set_option maxRecDepth 100000 in
theorem Zu3 (r:Nat)(w:World)(A:Option Addr)(c:Nat)(x0 x1 x2 x3:Value)(hr:Blk w r 237 #[x0,x1,x2,x3,.slice A 4 c])(hs:Y2 w w.heap.size A Zst) :
 Calls Tryz.prog 181 #[.pointer (some ⟨r,0,none⟩)] w λe w'=>∃g,e=.returned (.iface 311 (.pointer (some ⟨g,0,none⟩)))/\Zda w' w.heap.size w'.heap.size g/\Below w.heap.size w w':=by
 obtain ⟨i0,hi,hz0,hz1,hz2⟩:=info_parts Zd4;obtain ⟨b,o,rfl,hb,hc⟩:=hs (by decide);have c4:w.cell? ⟨r,4,none⟩=some (.slice (some ⟨b,o,none⟩) 4 c):=(hr.cell 4).trans rfl;have d0:w.cell? ⟨b,o,none⟩=some (.string ⟨#[92]⟩):=hc 0 _ rfl;have d1:w.cell? ⟨b,o+1,none⟩=some (.string ⟨#[92,92]⟩):=hc 1 _ rfl;have d2:w.cell? ⟨b,o+2,none⟩=some (.string ⟨#[34]⟩):=hc 2 _ rfl;have d3:w.cell? ⟨b,o+3,none⟩=some (.string ⟨#[92,34]⟩):=hc 3 _ rfl;have hmk:∀w,(Instr.makeSlice 23 (.int .i64 0) (.int .i64 2)).run Tryz.prog w=.ok (.slice (some ⟨w.heap.size,0,none⟩) 0 2) (w.alloc (.cells #[.string ⟨#[]⟩,.string ⟨#[]⟩] 9)):=λ_=>by kernel_rfl
 obtain ⟨Z,hZ,hst⟩:∃Z:Array Value,Z=Tryz.zeroCells310.setIfInBounds 256 (.slice (some ⟨w.heap.size,0,none⟩) 0 2) /\
  Sem.run Tryz.prog (storeCells ⟨w.heap.size+1,0,none⟩ (Tryz.zeroCells310.toList.set 256 (.slice (some ⟨w.heap.size,0,none⟩) 0 2))) ((w.alloc (.cells #[.string ⟨#[]⟩,.string ⟨#[]⟩] 9)).alloc (.cells Tryz.zeroCells310 310))=.ok () ((w.alloc (.cells #[.string ⟨#[]⟩,.string ⟨#[]⟩] 9)).alloc (.cells Z 310)):=
  ⟨_,rfl,Zzp _ _ rfl _ (by simp)⟩
 have zno:∀i,i < 256->Z[i]? = some (.slice none 0 0):=λi hi=>by rw [hZ,Array.getElem?_setIfInBounds_ne (by omega)];exact Z2c i hi
 have ZNO:=Ld zno;clear zno;have z92:Z[92]? = some (.slice none 0 0):=by rw [hZ];kernel_rfl
 have z34:Z[34]? = some (.slice none 0 0):=by rw [hZ];kernel_rfl
 have z256:Z[256]? = some (.slice (some ⟨w.heap.size,0,none⟩) 0 2):=by rw [hZ];kernel_rfl
 have i34:(({ data:=#[34] }:ByteArray)[0]'(by decide)).toNat=34:=rfl;have i92:(({ data:=#[92] }:ByteArray)[0]'(by decide)).toNat=92:=rfl;clear hZ;go_enter Tryz.func181,Tryz.ntmps181
 go_wp2_with fail
 refine wp_loop_rounds 3 ?_;rw [rounds_succ];go_wp2_with fail
 rw [rounds_succ];go_wp2_with fail
 rw [rounds_succ];go_wp2_with fail
 clear hst hmk;have hown0:((w.alloc (.cells #[.string ⟨#[]⟩,.string ⟨#[]⟩] 9)).alloc (.cells Z 310)).ownsRow w.heap.size 9 1 (.slice (some ⟨w.heap.size,0,none⟩) 0 2) 0 []:=
  (World.ownsRow_made w #[.string ⟨#[]⟩,.string ⟨#[]⟩] 2 (nL _) (by unfold maxLen;omega) rfl).alloc _
 have hblk0:Blk ((w.alloc (.cells #[.string ⟨#[]⟩,.string ⟨#[]⟩] 9)).alloc (.cells Z 310)) (w.heap.size+1) 310 Z:=by
  have:=Blk.new (w.alloc (.cells #[.string ⟨#[]⟩,.string ⟨#[]⟩] 9)) 310 Z;simpa using this
 have hbel0:Below w.heap.size w ((w.alloc (.cells #[.string ⟨#[]⟩,.string ⟨#[]⟩] 9)).alloc (.cells Z 310)):=by (repeat (first | assumption | exact bR | apply bD | apply Za | refine bA ?_ _))
 have hsz0:((w.alloc (.cells #[.string ⟨#[]⟩,.string ⟨#[]⟩] 9)).alloc (.cells Z 310)).heap.size=w.heap.size+2:=by simp
 generalize hW:((w.alloc (.cells #[.string ⟨#[]⟩,.string ⟨#[]⟩] 9)).alloc (.cells Z 310))=W at hown0 hblk0 hbel0 hsz0 ⊢;clear hW;have e0:=hbel0.cell (p:=⟨b,o,none⟩) hb;have e1:=hbel0.cell (p:=⟨b,o+1,none⟩) hb;have e2:=hbel0.cell (p:=⟨b,o+2,none⟩) hb;have e3:=hbel0.cell (p:=⟨b,o+3,none⟩) hb;rw [d0] at e0;rw [d1] at e1;rw [d2] at e2;rw [d3] at e3;have HZ:=Ld hsz0;clear hsz0;have q34:W.cell? ⟨w.heap.size+1,34,none⟩=some (.slice none 0 0):=(hblk0.cell 34).trans z34;have q256:W.cell? ⟨w.heap.size+1,256,none⟩=some (.slice (some ⟨w.heap.size,0,none⟩) 0 2):=(hblk0.cell 256).trans z256;have f0:=hblk0.frozen;have heq:=λ(W:World) (a:Option Addr) (n c:Nat)=>Lib.run_eql_slice_nil (P:=Tryz.prog) W 163 5 a n c 0 0 Tryz.underlying163;have hbs34:∀W:World,(convert 163 9 (.slice (some ⟨W.heap.size,0,none⟩) 1 1)).run Tryz.prog (W.alloc (.cells #[.int .u8 34] 5))=.ok (.string ⟨#[34]⟩) (W.alloc (.cells #[.int .u8 34] 5)):=λW=>Zkv W _ rfl 34;have hbs92:∀W:World,(convert 163 9 (.slice (some ⟨W.heap.size,0,none⟩) 1 1)).run Tryz.prog (W.alloc (.cells #[.int .u8 92] 5))=.ok (.string ⟨#[92]⟩) (W.alloc (.cells #[.int .u8 92] 5)):=λW=>Zkv W _ rfl 92;refine wp_loop_rounds 3 ?_;rw [rounds_succ];go_wp2_with (at_builtin;refine wpList_append_fits _ rfl (.tmp 119) (.tmp 123) 23 rfl w.heap.size 9 i0 1 Tryz.underlying23 hi hz1 w.heap.size 0 2 [] rfl ((hown0.alloc _).alloc _) ⟨W.heap.size+1,0,none⟩ 1 1 [.string ⟨#[34]⟩] rfl rfl (Zdg (W.alloc _) _ _ _ (by simp)) (by simp [Value.oneCell']) (by omega) ?_)
 intro w1 hown1 hgrow1;have hb1:Blk w1 (w.heap.size+1) 310 Z:=((hblk0.alloc _).alloc _).grown hgrow1 (by simp);have hbel1:Below w.heap.size w w1:=(((hbel0.alloc (by have:=HZ.out;omega) _).alloc (by have:=HZ.out;simp;omega) _)).grown hgrow1 (by have:=HZ.out;simp;omega) (by rintro k ⟨⟩;omega);clear hgrow1 hown0 hblk0 hbel0 q34 q256 f0 e0 e1 e2 e3;obtain ⟨cp1,w2,hr1,hcl1,hbl1⟩:=Zbk (P:=Tryz.prog) (w1.setCell ⟨w.heap.size+1,256,none⟩ (.slice (some ⟨w.heap.size,0,none⟩) 1 2)) 9 163 5 ⟨#[92,34]⟩ Tryz.underlying9 Tryz.underlying163 Tryz.underlying5;have q256:w1.cell? ⟨w.heap.size+1,256,none⟩=some (.slice (some ⟨w.heap.size,0,none⟩) 0 2):=(hb1.cell 256).trans z256;have f0:=hb1.frozen;have hb2:Blk w2 (w.heap.size+1) 310 (Z.setIfInBounds 256 (.slice (some ⟨w.heap.size,0,none⟩) 1 2)):=(hb1.set 256 _).below hbl1 (hb1.set 256 _).lt;have z34':(Z.setIfInBounds 256 (.slice (some ⟨w.heap.size,0,none⟩) 1 2))[34]? = some (.slice none 0 0):=by rw [Array.getElem?_setIfInBounds_ne (by omega)];exact z34
 have z92':(Z.setIfInBounds 256 (.slice (some ⟨w.heap.size,0,none⟩) 1 2))[92]? = some (.slice none 0 0):=by rw [Array.getElem?_setIfInBounds_ne (by omega)];exact z92
 have p34:w2.cell? ⟨w.heap.size+1,34,none⟩=some (.slice none 0 0):=(hb2.cell 34).trans z34';have f2:=hb2.frozen;have HC1:=Ld hcl1;have HB1:=Ld hbl1;clear hcl1 hbl1;have HO1:=Ld hown1;clear hown1;have hr1':(convert 9 163 (.string ⟨#[92,34]⟩)).run Tryz.prog (w1.setCell ⟨w.heap.size+1,256,none⟩ (.slice (some ⟨w.heap.size,0,none⟩) 1 2))=.ok (.slice (some ⟨w1.heap.size,0,none⟩) 2 cp1) w2:=by
  have:=hr1;simp only [World.size_setCell] at this;exact this
 clear hr1;go_wp2_with fail
 have hsz1:w.heap.size+1 < w1.heap.size:=hb1.lt;have hb3:Blk (w2.setCell ⟨w.heap.size+1,34,none⟩ (.slice (some ⟨w1.heap.size,0,none⟩) 2 cp1)) (w.heap.size+1) 310 ((Z.setIfInBounds 256 (.slice (some ⟨w.heap.size,0,none⟩) 1 2)).setIfInBounds 34 (.slice (some ⟨w1.heap.size,0,none⟩) 2 cp1)):=hb2.set 34 _;have hown3:(w2.setCell ⟨w.heap.size+1,34,none⟩ (.slice (some ⟨w1.heap.size,0,none⟩) 2 cp1)).ownsRow w.heap.size 9 1 (.slice (some ⟨w.heap.size,0,none⟩) 1 2) 1 [.string ⟨#[34]⟩]:=
  Ztq (p:=⟨w.heap.size+1,34,none⟩) (Zu (Ztq (p:=⟨w.heap.size+1,256,none⟩) HO1.out (by simp [Value.ownBlock]) _) HB1.out) (by simp [Value.ownBlock]) _
 have hbel3:Below w.heap.size w (w2.setCell ⟨w.heap.size+1,34,none⟩ (.slice (some ⟨w1.heap.size,0,none⟩) 2 cp1)):=
  ((hbel1.setCell (p:=⟨w.heap.size+1,256,none⟩) (by simp) _).trans (HB1.out.mono (by rw [World.size_setCell];omega))).setCell (by simp) _
 have hk0:w2.cell? ⟨w1.heap.size,0,none⟩=some (.int .u8 92):=by
  have:=HC1.out 0 (by decide);rw [World.size_setCell] at this;exact this
 have hk1:w2.cell? ⟨w1.heap.size,1,none⟩=some (.int .u8 34):=by
  have:=HC1.out 1 (by decide);rw [World.size_setCell] at this;exact this
 have hd0:=(World.cell?_setCell_other w2 ⟨w.heap.size+1,34,none⟩ ⟨w1.heap.size,0,none⟩ (.slice (some ⟨w1.heap.size,0,none⟩) 2 cp1) (by simp)).trans hk0;have hd1:=(World.cell?_setCell_other w2 ⟨w.heap.size+1,34,none⟩ ⟨w1.heap.size,1,none⟩ (.slice (some ⟨w1.heap.size,0,none⟩) 2 cp1) (by simp)).trans hk1;have hs2:w1.heap.size < (w2.setCell ⟨w.heap.size+1,34,none⟩ (.slice (some ⟨w1.heap.size,0,none⟩) 2 cp1)).heap.size:=by
  rw [World.size_setCell];exact World.block_lt_of_cell? _ _ hk0
 generalize hW3:w2.setCell ⟨w.heap.size+1,34,none⟩ (.slice (some ⟨w1.heap.size,0,none⟩) 2 cp1)=W3 at hb3 hown3 hbel3 hd0 hd1 hs2 ⊢;clear hW3 hk0 hk1 HC1 HB1 HO1 hr1' f2 p34 hb2 f0 q256 hbel1 hb1;have e0:W3.cell? ⟨b,o,none⟩=some (.string ⟨#[92]⟩):=(hbel3.cell (p:=⟨b,o,none⟩) hb).trans d0;have e1:W3.cell? ⟨b,o+1,none⟩=some (.string ⟨#[92,92]⟩):=(hbel3.cell (p:=⟨b,o+1,none⟩) hb).trans d1;obtain ⟨Z3,hZ3,zz34,zz92,zz256,zzno⟩:∃Z3:Array Value,Z3=(Z.setIfInBounds 256 (.slice (some ⟨w.heap.size,0,none⟩) 1 2)).setIfInBounds 34 (.slice (some ⟨w1.heap.size,0,none⟩) 2 cp1) /\
  Z3[34]? = some (.slice (some ⟨w1.heap.size,0,none⟩) 2 cp1)/\Z3[92]? = some (.slice none 0 0)/\Z3[256]? = some (.slice (some ⟨w.heap.size,0,none⟩) 1 2)/\(∀i,i < 256->i≠34->Z3[i]? = some (.slice none 0 0)):=by
  have hn:∀i,i < 256->i≠34->((Z.setIfInBounds 256 (.slice (some ⟨w.heap.size,0,none⟩) 1 2)).setIfInBounds 34 (.slice (some ⟨w1.heap.size,0,none⟩) 2 cp1))[i]? = some (.slice none 0 0):=λi hi hne=>by
   rw [Array.getElem?_setIfInBounds_ne (by omega),Array.getElem?_setIfInBounds_ne (by omega)];exact ZNO.out i hi
  refine ⟨_,rfl,?_,hn 92 (by omega) (by omega),?_,hn⟩
  . rw [Array.getElem?_setIfInBounds_self];have:=(Array.getElem?_eq_some_iff.1 z34).1;simpa using this
  . rw [Array.getElem?_setIfInBounds_ne (by omega),Array.getElem?_setIfInBounds_self];have:=(Array.getElem?_eq_some_iff.1 z256).1;simpa using this
 rw [<-hZ3] at hb3;have ZN3:=Ld zzno;clear hZ3 zzno z34' z92' z34 z92 z256 ZNO;have q92:W3.cell? ⟨w.heap.size+1,92,none⟩=some (.slice none 0 0):=(hb3.cell 92).trans zz92;have q256:W3.cell? ⟨w.heap.size+1,256,none⟩=some (.slice (some ⟨w.heap.size,0,none⟩) 1 2):=(hb3.cell 256).trans zz256;have f3:=hb3.frozen;have HD0:=Ld hd0;have HD1:=Ld hd1;clear hd0 hd1;rw [rounds_succ];go_wp2_with (at_builtin;refine wpList_append_fits _ rfl (.tmp 119) (.tmp 123) 23 rfl w.heap.size 9 i0 1 Tryz.underlying23 hi hz1 w.heap.size 1 2 [.string ⟨#[34]⟩] rfl ((hown3.alloc _).alloc _) ⟨W3.heap.size+1,0,none⟩ 1 1 [.string ⟨#[92]⟩] rfl rfl (Zdg (W3.alloc _) _ _ _ (by simp)) (by simp [Value.oneCell']) (by omega) ?_)
 intro w4 hown4 hgrow4;have hlt3:=hb3.lt;have hb4:Blk w4 (w.heap.size+1) 310 Z3:=((hb3.alloc _).alloc _).grown hgrow4 (by simp);have hbel4:Below w.heap.size w w4:=(((hbel3.alloc (by omega) _).alloc (by simp;omega) _)).grown hgrow4 (by simp;omega) (by rintro k ⟨⟩;omega);have hd0:w4.cell? ⟨w1.heap.size,0,none⟩=some (.int .u8 92):=hgrow4.cell ((World.cell?_alloc_lt _ _ _ (by simp;omega)).trans ((World.cell?_alloc_lt _ _ _ (by simp;omega)).trans HD0.out)) (by simp;omega);have hd1:w4.cell? ⟨w1.heap.size,1,none⟩=some (.int .u8 34):=hgrow4.cell ((World.cell?_alloc_lt _ _ _ (by simp;omega)).trans ((World.cell?_alloc_lt _ _ _ (by simp;omega)).trans HD1.out)) (by simp;omega);clear hgrow4 hown3 hb3 hbel3 q92 q256 f3 e0 e1 HD0 HD1;obtain ⟨cp2,w5,hr2,hcl2,hbl2⟩:=Zbk (P:=Tryz.prog) (w4.setCell ⟨w.heap.size+1,256,none⟩ (.slice (some ⟨w.heap.size,0,none⟩) 2 2)) 9 163 5 ⟨#[92,92]⟩ Tryz.underlying9 Tryz.underlying163 Tryz.underlying5;have hr2':(convert 9 163 (.string ⟨#[92,92]⟩)).run Tryz.prog (w4.setCell ⟨w.heap.size+1,256,none⟩ (.slice (some ⟨w.heap.size,0,none⟩) 2 2))=.ok (.slice (some ⟨w4.heap.size,0,none⟩) 2 cp2) w5:=by
  have:=hr2;simp only [World.size_setCell] at this;exact this
 clear hr2;have q256:w4.cell? ⟨w.heap.size+1,256,none⟩=some (.slice (some ⟨w.heap.size,0,none⟩) 1 2):=(hb4.cell 256).trans zz256;have f4:=hb4.frozen;have hb5:Blk w5 (w.heap.size+1) 310 (Z3.setIfInBounds 256 (.slice (some ⟨w.heap.size,0,none⟩) 2 2)):=(hb4.set 256 _).below hbl2 (hb4.set 256 _).lt;have p92:w5.cell? ⟨w.heap.size+1,92,none⟩=some (.slice none 0 0):=(hb5.cell 92).trans (by rw [Array.getElem?_setIfInBounds_ne (by omega)];exact zz92);have f5:=hb5.frozen;have hlt4:=hb4.lt;have hbel5:Below w.heap.size w w5:=(hbel4.setCell (p:=⟨w.heap.size+1,256,none⟩) (by simp) _).trans (hbl2.mono (by rw [World.size_setCell];omega));have hk0:w5.cell? ⟨w4.heap.size,0,none⟩=some (.int .u8 92):=by
  have:=hcl2 0 (by decide);rw [World.size_setCell] at this;exact this
 have hk1:w5.cell? ⟨w4.heap.size,1,none⟩=some (.int .u8 92):=by
  have:=hcl2 1 (by decide);rw [World.size_setCell] at this;exact this
 have hl4:w1.heap.size < w4.heap.size:=World.block_lt_of_cell? _ _ hd0;have hf:∀g i,g < w4.heap.size->g≠w.heap.size+1->w5.cell? ⟨g,i,none⟩=w4.cell? ⟨g,i,none⟩:=λg i hg hne=>
  (hbl2.cell (p:=⟨g,i,none⟩) (by rw [World.size_setCell];exact hg)).trans (World.cell?_setCell_other w4 ⟨w.heap.size+1,256,none⟩ ⟨g,i,none⟩ _ (by simp))
 have hr4:=hown4.cells (g:=w.heap.size) rfl;have hg0:w4.cell? ⟨w.heap.size,0,none⟩=some (.string ⟨#[34]⟩):=by have:=hr4 0 _ rfl;rwa [Vs] at this
 have hg1:w4.cell? ⟨w.heap.size,1,none⟩=some (.string ⟨#[92]⟩):=by have:=hr4 1 _ rfl;rwa [Vs] at this
 have hs5:w4.heap.size < w5.heap.size:=World.block_lt_of_cell? _ _ hk0;have fin:Zda (w5.setCell ⟨w.heap.size+1,92,none⟩ (.slice (some ⟨w4.heap.size,0,none⟩) 2 cp2)) w.heap.size w5.heap.size (w.heap.size+1):=by
  have hb6:=hb5.set 92 (.slice (some ⟨w4.heap.size,0,none⟩) 2 cp2);have hs:∀g i,g≠w.heap.size+1->(w5.setCell ⟨w.heap.size+1,92,none⟩ (.slice (some ⟨w4.heap.size,0,none⟩) 2 cp2)).cell? ⟨g,i,none⟩=w5.cell? ⟨g,i,none⟩:=λg i hne=>World.cell?_setCell_other w5 _ _ _ (by simp);have n92:=(Array.getElem?_eq_some_iff.1 zz92).1;have n256:=(Array.getElem?_eq_some_iff.1 zz256).1;refine ⟨by omega,by omega,by rw [World.size_setCell];exact nL _,λi hi n1 n2=>?_,⟨w1.heap.size,cp1,?_,by omega,?_,?_⟩,⟨w4.heap.size,cp2,?_,by omega,?_,?_⟩,⟨w.heap.size,?_,by omega,?_,?_⟩⟩
  . rw [hb6.cell,Array.getElem?_setIfInBounds_ne (by omega),Array.getElem?_setIfInBounds_ne (by omega)];exact ZN3.out i hi n1
  . rw [hb6.cell,Array.getElem?_setIfInBounds_ne (by omega),Array.getElem?_setIfInBounds_ne (by omega)];exact zz34
  . rw [hs _ _ (by omega),hf _ _ (by omega) (by omega)];exact hd0
  . rw [hs _ _ (by omega),hf _ _ (by omega) (by omega)];exact hd1
  . rw [hb6.cell,Array.getElem?_setIfInBounds_self];simp [n92]
  . rw [hs _ _ (by omega)];exact hk0
  . rw [hs _ _ (by omega)];exact hk1
  . rw [hb6.cell,Array.getElem?_setIfInBounds_ne (by omega),Array.getElem?_setIfInBounds_self];simp [n256]
  . rw [hs _ _ (by omega),hf _ _ (by omega) (by omega)];exact hg0
  . rw [hs _ _ (by omega),hf _ _ (by omega) (by omega)];exact hg1
 have FIN:=Ld fin;have HB5:=Ld hbel5;clear fin hf hr4 hg0 hg1 hd0 hd1 hk0 hk1 hcl2 hbl2 hown4 hbel4 hbel5 hs hc hr;go_wp2_with fail
 rw [rounds_succ];go_wp2_with fail
 go_ret
 refine ⟨_,rfl,?_,HB5.out.setCell (by simp) _⟩;have:=FIN.out;rw [World.size_setCell];exact this
def Zsy (w:World)(lo r:Nat)(x0 x1 x2:Value):Prop:=
 ∃g,Blk w r 237 #[x0,x1,x2,.iface 311 (.pointer (some ⟨g,0,none⟩)),.slice none 0 0]/\Zda w lo w.heap.size g
set_option maxRecDepth 100000 in
theorem Zjt (r:Nat)(w:World)(A:Option Addr)(c:Nat)(x0 x1 x2 x3:Value)(hr:Blk w r 237 #[x0,x1,x2,x3,.slice A 4 c])(hs:Y2 w w.heap.size A Zst) :
 Calls Tryz.prog 158 #[.pointer (some ⟨r,0,none⟩)] w λe w'=>e=.returned (.tuple #[])/\Zsy w' w.heap.size r x0 x1 x2/\Yk w.heap.size r w w':=by
 go_enter Tryz.func158,Tryz.ntmps158
 go_wp2_with fail
 refine (Zu3 r w A c x0 x1 x2 x3 hr hs).mono ?_;rintro e w1 ⟨g,rfl,htab,hb1⟩;have hr1:=hr.below hb1 hr.lt;have c3:=hr1.cell 3;have c4:=hr1.cell 4;have f1:=hr1.frozen;go_wp2_with fail
 go_end0
 have hlt:=hr.lt;have hr2:=(hr1.set 3 (.iface 311 (.pointer (some ⟨g,0,none⟩)))).set 4 (.slice none 0 0);refine ⟨rfl,⟨g,?_,?_⟩,?_⟩
 . exact hr2
 . rw [World.size_setCell,World.size_setCell];exact htab.keep (by rw [World.size_setCell,World.size_setCell];exact nL _) λg i hg _=>(World.cell?_setCell_other _ ⟨r,4,none⟩ ⟨g,i,none⟩ _ (by simp)).trans (World.cell?_setCell_other _ ⟨r,3,none⟩ ⟨g,i,none⟩ _ (by simp))
 . exact ((Yk.of_below hb1 (nL _)).setCell (p:=⟨r,3,none⟩) (.inl rfl) _).setCell (p:=⟨r,4,none⟩) (.inl rfl) _
theorem Zhx (W:World)(G N j:Nat)(hj:j < N):(Instr.slice 163 (.slice (some ⟨G,0,none⟩) N N) (some (.int .i64 (j:Int))) none none).run Tryz.prog W=.ok (.slice (some ⟨G,j,none⟩) (N - j) (N - j)) W:=by
 have hel:Tryz.prog.elem 163=5:=by kernel_rfl
 have hsz:(Go.sizeOf 5).run Tryz.prog W=.ok 1 W:=by kernel_rfl
 rw [run_slice_l (P:=Tryz.prog) (w:=W) 163 (some ⟨G,0,none⟩) N N (by rw [hel];exact Tryz.underlying163) .i64 (j:Int) (by omega) (by omega),hel,hsz];simp only [Result.andThen,sliced,Int.toNat_natCast];rw [if_neg (by omega)];simp [Addr.add];omega
theorem Zkr {w:World}{a:Nat}{x y:UInt8}(h0:w.cell? ⟨a,0,none⟩=some (.int .u8 (x.toNat:Int)))(h1:w.cell? ⟨a,1,none⟩=some (.int .u8 (y.toNat:Int))) :
 ∀j v,(byC [x,y])[j]? = some v->w.cell? ((⟨a,0,none⟩:Addr).add j)=some v:=by
 intro j v hv;rw [Vs,Nat.zero_add];match j,hv with
 | 0,hv=>exact h0.trans hv
 | 1,hv=>exact h1.trans hv
theorem Ztw {N j:Nat}{x y:UInt8}(h:j+2<=N):(byC [x,y]).length=Nat.min 2 (N - j):=by
 rw [Z03];show 2=min 2 (N - j);omega
theorem Ztf (l:List UInt8):∀v∈byC l,v.oneCell'=true:=by
 intro v hv;obtain ⟨b,_,rfl⟩:=List.mem_map.1 hv;rfl
theorem Zgf {cur cs:List Value}{j:Nat}(h:j+cs.length<=cur.length):(splice cur j cs).take (j+cs.length)=cur.take j++cs:=by
 unfold splice;rw [<-List.append_assoc,List.take_append_of_le_length (by simp;omega),List.take_of_length_le (by simp;omega)]
theorem Zyf {cur:List Value}{j:Nat}{v:Value}(h:j < cur.length):(cur.set j v).take (j+1)=cur.take j ++ [v]:=by
 rw [List.take_add_one,List.take_set_of_le (nL _),List.getElem?_set_self h];rfl
theorem Z33 (j:Nat)(a b:UInt8)(h:(j:Int)<=5000):IntKind.i64.wrap ((j:Int)+((byC [a,b]).length:Nat))=((j+2:Nat):Int):=by
 rw [show (byC [a,b]).length=2 from rfl,IntWalk.i64_in _ (by omega)];omega
theorem Tryz.info5q:(Tryz.prog.info? 5).map (λi=>(i.zero,i.size,i.bytes))=some (some (.int .u8 0),1,1):=by kernel_rfl
set_option maxRecDepth 100000 in
theorem Znt (g lo:Nat)(s:ByteArray)(w:World)(ht:Zda w lo w.heap.size g)(hs:s.size<=1000) :
 Calls Tryz.prog 302 #[.pointer (some ⟨g,0,none⟩),.string s] w λe w'=>e=.returned (.string ⟨(Ji s.toList).toArray⟩)/\Below w.heap.size w w':=by
 obtain ⟨hge,hgl,_,hno,⟨qa,qc,q0,⟨_,q1⟩,q2,q3⟩,⟨sa,sc,s0,⟨_,s1⟩,s2,s3⟩,⟨ta,t0,⟨_,t1⟩,t2,t3⟩⟩:=ht;have HNO:=Ld hno;clear hno;have hcl:((Uf s.toList:Nat):Int)<=1000:=by have:=Zh8 s.toList;rw [Zk] at this;omega
 have hneq:=λ(W:World) (a:Option Addr) (n c:Nat)=>run_neq_slice_nil_any (P:=Tryz.prog) W 163 5 a n c 0 0 Tryz.underlying163;go_enter Tryz.func302,Tryz.ntmps302
 go_upto_if 26 with fail
 go_cut [5,6] (λs5 s6 wx=>s5=.int .i64 ((s.size:Int)+Uf s.toList)/\s6=.bool (Uf s.toList != 0)/\∃n,wx=w.drewN n)
 case first=>
  obtain ⟨c1,hc1⟩:∃c1,Lib.countByte s.data.toList 34=c1:=⟨_,rfl⟩;obtain ⟨c2,hc2⟩:∃c2,Lib.countByte s.data.toList 92=c2:=⟨_,rfl⟩;have hsum:c1+c2=Uf s.toList:=by rw [<-hc1,<-hc2,ByteArray.toList_eq];exact Zrh _
  have HS:=Ld hsum;have hb12:((c1:Nat):Int)+c2<=1000:=by omega
  have hC1:∀W,Calls Tryz.prog 304 #[.string s,.string ⟨#[34]⟩] W λe w'=>e=.returned (.int .i64 (c1:Int))/\W=w':=λW=>by rw [<-hc1];exact (Tryz.strings_Count_one s 34 W).mono λ_ _ h=>⟨h.1,h.2.symm⟩
  have hC2:∀W,Calls Tryz.prog 304 #[.string s,.string ⟨#[92]⟩] W λe w'=>e=.returned (.int .i64 (c2:Int))/\W=w':=λW=>by rw [<-hc2];exact (Tryz.strings_Count_one s 92 W).mono λ_ _ h=>⟨h.1,h.2.symm⟩
  have HC1:=Ld hC1;have HC2:=Ld hC2;clear hc1 hc2 hsum hC1 hC2;have i34:(({ data:=#[34] }:ByteArray)[0]'(by decide)).toNat=34:=rfl;have i92:(({ data:=#[92] }:ByteArray)[0]'(by decide)).toNat=92:=rfl;by_cases h16:16<=s.size
  . by_cases z1:c1=0
    . have b1:(((c1:Nat):Int) != 0)=false:=(by simp [z1]);have Z1:=Ld z1;clear z1;by_cases z2:c2=0
      . have b2:(((c2:Nat):Int) != 0)=false:=(by simp [z2]);have Z2:=Ld z2;clear z2;go_wp2_with fail
        refine wp_loop_rounds 3 ?_;rw [rounds_succ];go_wp2_with fail
        refine (HC1.out _).mono ?_;rintro e w' ⟨rfl,rfl⟩;go_wp2_with fail
        rw [rounds_succ];go_wp2_with fail
        refine (HC2.out _).mono ?_;rintro e w' ⟨rfl,rfl⟩;go_wp2_with fail
        rw [rounds_succ];go_wp2_with fail
        go_meet
        have h1:=Z1.out;have h2:=Z2.out;have h3:=HS.out;exact ⟨by rw [<-h3];first | (rw [h1];simp;done) | go_num | (simp [h1,h2];try omega),by rw [<-h3];simp [h1,h2],by first | exact ⟨_,rfl⟩ | exact ⟨0,rfl⟩⟩
      . have b2:(((c2:Nat):Int) != 0)=true:=(by rw [bne_iff_ne];omega);have Z2:=Ld z2;clear z2;go_wp2_with fail
        refine wp_loop_rounds 3 ?_;rw [rounds_succ];go_wp2_with fail
        refine (HC1.out _).mono ?_;rintro e w' ⟨rfl,rfl⟩;go_wp2_with fail
        rw [rounds_succ];go_wp2_with fail
        refine (HC2.out _).mono ?_;rintro e w' ⟨rfl,rfl⟩;go_wp2_with fail
        go_quiet (fail)
        go_wp2_with fail
        rw [rounds_succ];go_wp2_with fail
        go_meet
        have h1:=Z1.out;have h2:=Z2.out;have h3:=HS.out;exact ⟨by rw [<-h3];first | (rw [h1];simp;done) | go_num | (simp [h1];try omega),by rw [<-h3];simp [h1,h2],by first | exact ⟨_,rfl⟩ | exact ⟨0,rfl⟩⟩
    . have b1:(((c1:Nat):Int) != 0)=true:=(by rw [bne_iff_ne];omega);have Z1:=Ld z1;clear z1;by_cases z2:c2=0
      . have b2:(((c2:Nat):Int) != 0)=false:=(by simp [z2]);have Z2:=Ld z2;clear z2;go_wp2_with fail
        refine wp_loop_rounds 3 ?_;rw [rounds_succ];go_wp2_with fail
        refine (HC1.out _).mono ?_;rintro e w' ⟨rfl,rfl⟩;go_wp2_with fail
        go_quiet (fail)
        go_wp2_with fail
        rw [rounds_succ];go_wp2_with fail
        refine (HC2.out _).mono ?_;rintro e w' ⟨rfl,rfl⟩;go_wp2_with fail
        rw [rounds_succ];go_wp2_with fail
        go_meet
        have h1:=Z1.out;have h2:=Z2.out;have h3:=HS.out;exact ⟨by rw [<-h3];first | (rw [h1];simp;done) | go_num | (simp [h1,h2];try omega),by rw [<-h3];simp [h1,h2],by first | exact ⟨_,rfl⟩ | exact ⟨0,rfl⟩⟩
      . have b2:(((c2:Nat):Int) != 0)=true:=(by rw [bne_iff_ne];omega);have Z2:=Ld z2;clear z2;go_wp2_with fail
        refine wp_loop_rounds 3 ?_;rw [rounds_succ];go_wp2_with fail
        refine (HC1.out _).mono ?_;rintro e w' ⟨rfl,rfl⟩;go_wp2_with fail
        go_quiet (fail)
        go_wp2_with fail
        rw [rounds_succ];go_wp2_with fail
        refine (HC2.out _).mono ?_;rintro e w' ⟨rfl,rfl⟩;go_wp2_with fail
        go_quiet (fail)
        go_wp2_with fail
        rw [rounds_succ];go_wp2_with fail
        go_meet
        have h1:=Z1.out;have h2:=Z2.out;have h3:=HS.out;exact ⟨by rw [<-h3];first | (rw [h1];simp;done) | go_num | (simp [h1,h2];try omega),by rw [<-h3];simp [h1,h2],by first | exact ⟨_,rfl⟩ | exact ⟨0,rfl⟩⟩
  . have HQ:=Ld h16;clear h16;have h16:s.size < 16:=(by have:=HQ.out;omega);clear HC1 HC2 HS hb12 i34 i92;go_wp2_with fail
    go_loop [5,6,10] (λn5 n6 i=>∃k:Nat,k<=s.size/\i=.int .i64 k/\n5=.int .i64 ((s.size:Int)+Uf (s.toList.take k))/\n6=.bool (Uf (s.toList.take k) != 0)) (λ_ _ i=>s.size - (intOf i).toNat)
    case atStart=>exact ⟨0,by omega,rfl,by simp [Uf],by simp [Uf]⟩
    case round=>
     obtain ⟨k,hk,rfl,rfl,rfl⟩:=hrel;by_cases hlt:k < s.size
     . have hg:=Ub s k hlt;have hq:((Uf (s.toList.take k):Nat):Int)<=1000:=(by have:=Zh8 (s.toList.take k);simp [Zk] at this;omega);have HT:Hid (s.toList.take (k+1)=s.toList.take k ++ [s[k]]):=(by rw [List.take_add_one,hg];rfl);clear hg;by_cases h34:s[k].toNat=34
       . have HY:Hid (Zhd s[k]=true):=(Zar _).2 (.inl h34);go_wp2_with fail
         go_round
         case rel=>exact ⟨k+1,by omega,by go_num,by rw [HT.out,K3,HY.out];simp;go_num,by rw [HT.out,K3,HY.out];simp⟩
         case measure=>simp [intOf];omega
       . by_cases h92:s[k].toNat=92
         . have HY:Hid (Zhd s[k]=true):=(Zar _).2 (.inr h92);go_wp2_with fail
           go_round
           case rel=>exact ⟨k+1,by omega,by go_num,by rw [HT.out,K3,HY.out];simp;go_num,by rw [HT.out,K3,HY.out];simp⟩
           case measure=>simp [intOf];omega
         . have HY:Hid (Zhd s[k]=false):=by
            show _=_;cases hq:Zhd s[k] with
            | false=>rfl
            | true=>rcases (Zar _).1 hq with h | h <;> contradiction
           have hcell:=HNO.out s[k].toNat (UInt8.toNat_lt _) h34 h92;have hb256:s[k].toNat < 256:=UInt8.toNat_lt _;go_wp2_with fail
           go_round
           case rel=>exact ⟨k+1,by omega,by go_num,by rw [HT.out,K3,HY.out];simp,by rw [HT.out,K3,HY.out];simp⟩
           case measure=>simp [intOf];omega
     . have hks:k=s.size:=(by omega);subst hks;have HA:Hid (s.toList.take s.size=s.toList):=List.take_of_length_le (by rw [Zk];omega);go_wp2_with fail
       go_meet
       exact ⟨by rw [HA.out],by rw [HA.out],⟨0,rfl⟩⟩
 case rest=>
  obtain ⟨rfl,rfl,n,rfl⟩:=hcut;have hlen:s.toList.length=s.size:=Zk s;by_cases hz:Uf s.toList=0
  . have hb0:(Uf s.toList != 0)=false:=(by simp [hz]);have HZ:=Ld hz;have HL:=Ld hlen;clear hz hlen;go_wp2_with fail
    go_ret
    exact ⟨Ue (by rw [Zu4 _ HZ.out];exact (Zcr s).symm),Za (Below.refl _ _) _⟩
  . have hb0:(Uf s.toList != 0)=true:=(by simp [hz]);have hN:=Zet s.toList;obtain ⟨i0,hi,hz0,hz1,hz2⟩:=info_parts (Tryz.info5q);have HZ:=Ld hz;have HL:=Ld hlen;have HN:=Ld hN;clear hz hlen hN;go_wp2_with (at_make;refine wpList_make_full _ rfl (.tmp 84) (.tmp 84) 163 rfl w.heap.size 5 i0 (.int .u8 0) 1 Tryz.underlying163 hi hz0 hz1 .i64 .i64 _ _ (s.size+Uf s.toList) rfl rfl (by go_num) (by go_num) (by rw [hz2];omega) (by unfold maxLen;omega) (by simp) ?_)
    intro w1 hown1 hgrow1;have hbel1:Below w.heap.size w w1:=(Za (Below.refl _ _) n).grown hgrow1 (by simp) (by rintro k ⟨⟩);obtain ⟨cur0,hcur0,hlen0⟩:∃cur0:List Value,w1.heap[w.heap.size]? = some (.cells cur0.toArray 5 (0,0))/\cur0.length=s.size+Uf s.toList:=by
     rcases hown1.2 with ⟨hv,_⟩ | ⟨g',cap,cur,hv,_,hg,_,_,hsz,_⟩
     . simp at hv
     . injection hv with e1 e2 e3
       injection e1 with e1
       injection e1 with e1
       refine ⟨cur.toList,?_,?_⟩
       . rw [Array.toArray_toList];rw [show w.heap.size=g' from e1];exact hg
       . rw [Array.length_toList,hsz];omega
    clear hown1 hgrow1;have HC0:=Ld hcur0;have HE0:=Ld hlen0;clear hcur0 hlen0;go_wp2_with fail
    go_loopw [13,14] (λj i wr=>∃(k:Nat) (cur:List Value),k<=s.size/\i=.int .i64 k/\j=.int .i64 ((Ji (s.toList.take k)).length:Nat)/\Hid (cur.length=s.size+Uf s.toList)/\Hid (wr.heap[w.heap.size]? = some (.cells cur.toArray 5 (0,0))) /\
     Hid (cur.take (Ji (s.toList.take k)).length=byC (Ji (s.toList.take k)))/\Below w.heap.size w wr) (λ_ i _=>s.size - (intOf i).toNat)
    case atStart=>exact ⟨0,cur0,by omega,rfl,by simp [Ji],HE0,HC0,by simp [Ji,byC,Hid],hbel1⟩
    case round=>
     obtain ⟨k,cur,hk,rfl,rfl,HE,HC,HT,hb⟩:=hrel;by_cases hlt:k < s.size
     . have hg:=Ub s k hlt;have hle:=Zvl s.toList (k+1);have HK:Hid (Ji (s.toList.take (k+1))=Ji (s.toList.take k)++Zk9 s[k]):=(by rw [List.take_add_one,hg];exact Zvo _ _);rw [HK.out,List.length_append,Zk] at hle;have HLE:=Ld hle;clear hg hle;generalize hjn:(Ji (s.toList.take k)).length=jn at HT HLE ⊢;have HJ:=Ld hjn;clear hjn;have fz:wr.frozen? ⟨w.heap.size,jn,none⟩=false:=(by simp [World.frozen?,HC.out]);by_cases h34:s[k].toNat=34
       . have HY:Hid (Zk9 s[k] = [92,34]):=(by show _=_;rw [Zk9,if_pos ((Zar _).2 (.inl h34)),UInt8.toNat_inj.1 (h34.trans rfl:s[k].toNat=(34:UInt8).toNat)]);have g0:wr.cell? ⟨g,34,none⟩=some (.slice (some ⟨qa,0,none⟩) 2 qc):=(hb.cell (p:=⟨g,34,none⟩) (by omega)).trans q0;have hj2:jn+2<=s.size+Uf s.toList:=(by have:=HLE.out;rw [HY.out] at this;simpa using this);have hji:(0:Int)<=(jn:Int):=(by omega);have hjN:(jn:Int)<=((s.size+Uf s.toList:Nat):Int):=(by omega);have hsl:=λW=>Zhx W w.heap.size (s.size+Uf s.toList) jn (by omega);have hsrc:∀j v,(byC [92,34])[j]? = some v->wr.cell? ((⟨qa,0,none⟩:Addr).add j)=some v:=Zkr ((hb.cell (p:=⟨qa,0,none⟩) q1).trans q2) ((hb.cell (p:=⟨qa,1,none⟩) q1).trans q3);have HSR:=Ld hsrc;clear hsrc;go_wp2_with fail
         go_region_held3 (λw'=>w'.cell? ⟨g,34,none⟩=some (.slice (some ⟨qa,0,none⟩) 2 qc)) (first | go_keep | (exact (hB4.cell (p:=⟨g,34,none⟩) hgl).trans q0)) ((refine step_copy_splice rfl (.tmp 105) (.tmp 111) 163 163 rfl 5 Tryz.underlying163 (by kernel_rfl) (some ⟨w.heap.size,jn,none⟩) (some ⟨qa,0,none⟩) (s.size+Uf s.toList - jn) (s.size+Uf s.toList - jn) 2 qc (by rfl) (by rfl) w.heap.size jn cur 5 HC.out (byC [92,34]) (Ztw hj2) (λ_=>⟨rfl,_,rfl,HSR.out⟩) (by rw [HE.out];exact hj2) (Ztf _) w.heap.size w (Za hb 1) (nL _) ?_;intro w4 HG4 hB4))
         have hL:Hid (jn+2=(Ji (s.toList.take (k+1))).length):=(by show _=_;rw [HK.out,List.length_append,HJ.out,HY.out];rfl);have hR:Hid ((splice cur jn (byC [92,34])).take (jn+2)=byC (Ji (s.toList.take (k+1)))):=by
          show _=_;rw [HK.out,Zdw,HY.out,<-HT.out];exact Zgf (cur:=cur) (cs:=byC [92,34]) (j:=jn) (by rw [HE.out];exact hj2)
         have hE:Hid ((splice cur jn (byC [92,34])).length=s.size+Uf s.toList):=(by show _=_;rw [length_splice _ _ _ (by rw [HE.out];exact hj2)];exact HE.out);rw [Z33 jn 92 34 (by omega)];go_wp2_with fail
         go_roundw
         case rel=>exact ⟨k+1,splice cur jn (byC [92,34]),by omega,by go_num,by rw [hL.out],hE,HG4,by rw [<-hL.out];exact hR,hB4⟩
         case measure=>simp [intOf];omega
       . by_cases h92:s[k].toNat=92
         . have HY:Hid (Zk9 s[k] = [92,92]):=(by show _=_;rw [Zk9,if_pos ((Zar _).2 (.inr h92)),UInt8.toNat_inj.1 (h92.trans rfl:s[k].toNat=(92:UInt8).toNat)]);have g0:wr.cell? ⟨g,92,none⟩=some (.slice (some ⟨sa,0,none⟩) 2 sc):=(hb.cell (p:=⟨g,92,none⟩) (by omega)).trans s0;have hj2:jn+2<=s.size+Uf s.toList:=(by have:=HLE.out;rw [HY.out] at this;simpa using this);have hji:(0:Int)<=(jn:Int):=(by omega);have hjN:(jn:Int)<=((s.size+Uf s.toList:Nat):Int):=(by omega);have hsl:=λW=>Zhx W w.heap.size (s.size+Uf s.toList) jn (by omega);have hsrc:∀j v,(byC [92,92])[j]? = some v->wr.cell? ((⟨sa,0,none⟩:Addr).add j)=some v:=Zkr ((hb.cell (p:=⟨sa,0,none⟩) s1).trans s2) ((hb.cell (p:=⟨sa,1,none⟩) s1).trans s3);have HSR:=Ld hsrc;clear hsrc;go_wp2_with fail
           go_region_held3 (λw'=>w'.cell? ⟨g,92,none⟩=some (.slice (some ⟨sa,0,none⟩) 2 sc)) (first | go_keep | (exact (hB4.cell (p:=⟨g,92,none⟩) hgl).trans s0)) ((refine step_copy_splice rfl (.tmp 105) (.tmp 111) 163 163 rfl 5 Tryz.underlying163 (by kernel_rfl) (some ⟨w.heap.size,jn,none⟩) (some ⟨sa,0,none⟩) (s.size+Uf s.toList - jn) (s.size+Uf s.toList - jn) 2 sc (by rfl) (by rfl) w.heap.size jn cur 5 HC.out (byC [92,92]) (Ztw hj2) (λ_=>⟨rfl,_,rfl,HSR.out⟩) (by rw [HE.out];exact hj2) (Ztf _) w.heap.size w (Za hb 1) (nL _) ?_;intro w4 HG4 hB4))
           have hL:Hid (jn+2=(Ji (s.toList.take (k+1))).length):=(by show _=_;rw [HK.out,List.length_append,HJ.out,HY.out];rfl);have hR:Hid ((splice cur jn (byC [92,92])).take (jn+2)=byC (Ji (s.toList.take (k+1)))):=by
            show _=_;rw [HK.out,Zdw,HY.out,<-HT.out];exact Zgf (cur:=cur) (cs:=byC [92,92]) (j:=jn) (by rw [HE.out];exact hj2)
           have hE:Hid ((splice cur jn (byC [92,92])).length=s.size+Uf s.toList):=(by show _=_;rw [length_splice _ _ _ (by rw [HE.out];exact hj2)];exact HE.out);rw [Z33 jn 92 92 (by omega)];go_wp2_with fail
           go_roundw
           case rel=>exact ⟨k+1,splice cur jn (byC [92,92]),by omega,by go_num,by rw [hL.out],hE,HG4,by rw [<-hL.out];exact hR,hB4⟩
           case measure=>simp [intOf];omega
         . have hnq:Zhd s[k]=false:=by
            cases hq:Zhd s[k] with
            | false=>rfl
            | true=>rcases (Zar _).1 hq with h | h <;> contradiction
           have HY:Hid (Zk9 s[k] = [s[k]]):=(by show _=_;rw [Zk9,hnq];rfl);have hb256:s[k].toNat < 256:=UInt8.toNat_lt _;have hcell:wr.cell? ⟨g,s[k].toNat,none⟩=some (.slice none 0 0):=(hb.cell (p:=⟨g,s[k].toNat,none⟩) hgl).trans (HNO.out s[k].toNat hb256 h34 h92);have hj2:jn+1<=s.size+Uf s.toList:=(by have:=HLE.out;rw [HY.out] at this;simpa using this);clear hnq;have hcj:wr.cell? ⟨w.heap.size,jn,none⟩=some (cur[jn]'(by rw [HE.out];omega)):=by
            have h1:jn < cur.length:=(by rw [HE.out];omega);simp [World.cell?,HC.out,h1]
           have hL:Hid (jn+1=(Ji (s.toList.take (k+1))).length):=(by show _=_;rw [HK.out,List.length_append,HJ.out,HY.out];rfl);have hR:Hid ((cur.set jn (.int .u8 (s[k].toNat:Int))).take (jn+1)=byC (Ji (s.toList.take (k+1)))):=by
            show _=_;rw [HK.out,Zdw,HY.out,<-HT.out];exact Zyf (by rw [HE.out];omega)
           have hE:Hid ((cur.set jn (.int .u8 (s[k].toNat:Int))).length=s.size+Uf s.toList):=(by show _=_;rw [List.length_set];exact HE.out);have hS:Hid ((wr.setCell ⟨w.heap.size,jn,none⟩ (.int .u8 (s[k].toNat:Int))).heap[w.heap.size]? = some (.cells (cur.set jn (.int .u8 (s[k].toNat:Int))).toArray 5 (0,0))):=by
            have:=Blk.set (show Blk wr w.heap.size 5 cur.toArray from HC.out) jn (.int .u8 (s[k].toNat:Int));rw [List.setIfInBounds_toArray] at this;exact this
           go_wp2_with fail
           go_roundw
           case rel=>exact ⟨k+1,cur.set jn (.int .u8 (s[k].toNat:Int)),by omega,by go_num,by rw [<-hL.out];go_num,hE,hS,by rw [<-hL.out];exact hR,hb.setCell (by simp) _⟩
           case measure=>simp [intOf];omega
     . have hks:k=s.size:=(by omega);subst hks;have HA:s.toList.take s.size=s.toList:=List.take_of_length_le (by rw [Zk];omega);rw [HA] at HT ⊢;clear HA;have hcv:(convert 163 9 (.slice (some ⟨w.heap.size,0,none⟩) (s.size+Uf s.toList) (s.size+Uf s.toList))).run Tryz.prog wr=.ok (.string ⟨(Ji s.toList).toArray⟩) wr:=by
        have hl:(Ji s.toList).length=s.size+Uf s.toList:=(by rw [HN.out,HL.out]);have:=run_convert_bytes_back (P:=Tryz.prog) wr 163 9 5 ⟨w.heap.size,0,none⟩ (s.size+Uf s.toList) (Ji s.toList) Tryz.underlying163 Tryz.underlying5 Tryz.underlying9 (λj hj=>by
         have ht:=HT.out;rw [List.take_of_length_le (by rw [HE.out,hl];exact nL _)] at ht;rw [Vs,Nat.zero_add];simp only [World.cell?,HC.out];rw [ht];simp [byC,hj])
        rwa [hl] at this
       go_wp2_with fail
       go_ret
       exact ⟨rfl,hb⟩
end Go.Proofs.YtpheiojmcafolaaGreatDoor
namespace Go.Proofs.YtpheiojmcafolaaGreatDoor
open Go.RowKit Go.Sort Go.MuLone
abbrev Z39:Go.Conc.Locks.MuLink:={ lock:=202,unlock:=203,ilock:=215,iunlock:=216,lockSlow:=235,unlockSlow:=238,disable:=231,enable:=233,acquire:=234,relMerge:=236,cas32:=232,add32:=237,tMutex:=231,tIMutex:=229,tPMutex:=320,tPIMutex:=343,tPI32:=345,tUP:=253,tNoCopy:=223,tU32:=225 }
theorem Z3x:Go.Conc.Locks.MuLib Tryz.prog Z39:=
 ⟨Tryz.func202,Tryz.func203,Tryz.func215,Tryz.func216,Tryz.func231,Tryz.func233,Tryz.func234,Tryz.func236,Tryz.func232,Tryz.func237,Tryz.underlying229,Tryz.runUnderlying229,Tryz.sizeOf229,Tryz.isAgg229,Tryz.zeroValue229,Tryz.underlying231,Tryz.runUnderlying231,Tryz.sizeOf231,Tryz.isAgg231,Tryz.zeroValue231,Tryz.underlying320,Tryz.runUnderlying320,Tryz.sizeOf320,Tryz.isAgg320,Tryz.zeroValue320,Tryz.underlying343,Tryz.runUnderlying343,Tryz.sizeOf343,Tryz.isAgg343,Tryz.zeroValue343,Tryz.underlying345,Tryz.runUnderlying345,Tryz.sizeOf345,Tryz.isAgg345,Tryz.zeroValue345,Tryz.underlying253,Tryz.runUnderlying253,Tryz.sizeOf253,Tryz.isAgg253,Tryz.zeroValue253,Tryz.underlying223,Tryz.runUnderlying223,Tryz.sizeOf223,Tryz.isAgg223,Tryz.zeroValue223,Tryz.underlying21,Tryz.runUnderlying21,Tryz.sizeOf21,Tryz.isAgg21,Tryz.zeroValue21,(by kernel_rfl)⟩
theorem Zhh (a:Addr)(x:Value)(u:FrameMode)(w:World)(hc:w.cell? a=some x)(hz:w.frozen? a=false) :
 CallsD Tryz.prog 204 #[.pointer (some a),.bool true] u w λe u' w'=>u'=u/\(e=.returned (.tuple #[])/\w'=w.drew.setCell a (.int .u32 1)):=by
 have hc':w.drew.cell? a=some x:=by go_simp
 have hz':w.drew.frozen? a=false:=by go_simp
 have hst:=run_call_store (P:=Tryz.prog) Tryz.func217 (by kernel_rfl) (by kernel_rfl) (by kernel_rfl) (by kernel_rfl) (k:=.u32) (y:=1) hc' hz';go_enter_d Tryz.func204,Tryz.ntmps204
 go_wp2
 go_region_calls
 all_goals (go_end0;exact ⟨rfl,rfl⟩)
set_option maxRecDepth 100000 in
theorem Zww (r:Nat)(fv:Value)(K:Nat)(args:Array Value)(hfv:fv=.func (.func K) args #[])(hK:K=158)(w:World)(Q:World->Prop)
 (h0:w.cell? ⟨r,0,none⟩=some (.int .u32 0)) (h1:w.cell? ⟨r,1,none⟩=some (.int .i32 0)) (f1:w.frozen? ⟨r,1,none⟩=false)
 (hB:Calls Tryz.prog K args (w.setCell ⟨r,1,none⟩ (.int .i32 1)) λe w'=>e=.returned (.tuple #[])/\Q w')
 (hQ:∀w',Q w'->w'.cell? ⟨r,0,none⟩=some (.int .u32 0)/\w'.cell? ⟨r,1,none⟩=some (.int .i32 1)/\w'.frozen? ⟨r,0,none⟩=false/\w'.frozen? ⟨r,1,none⟩=false) :
 Calls Tryz.prog 180 #[.pointer (some ⟨r,0,none⟩),fv] w λe w'=>e=.returned (.tuple #[])/\∃w2,Q w2/\w'=(w2.drew.setCell ⟨r,0,none⟩ (.int .u32 1)).setCell ⟨r,1,none⟩ (.int .i32 0):=by
 subst hfv hK;have hl:=run_call_load (P:=Tryz.prog) Tryz.func201 (by kernel_rfl) (by kernel_rfl) (by kernel_rfl) .u32 (by kernel_rfl) (w:=w.setCell ⟨r,1,none⟩ (.int .i32 1)) (a:=⟨r,0,none⟩) (x:=0) ((World.cell?_setCell_other _ ⟨r,1,none⟩ ⟨r,0,none⟩ _ (by simp)).trans h0);have hnot:∀(x:Bool) (w:World),(Op.unary .not (.bool x)).run Tryz.prog w=.ok (.bool (!x)) w:=λ_ _=>rfl;go_enter_defers Tryz.func180,Tryz.ntmps180
 go_wp2_with (first | (go_at_call 202;refine (lock_free Z3x ⟨r,1,none⟩ _ h1 f1).mono ?_;rintro e w' ⟨rfl,rfl⟩) | (go_at_call 179;go_in))
 refine hB.mono ?_;rintro e w2 ⟨rfl,hq⟩;obtain ⟨q0,q1,z0,z1⟩:=hQ w2 hq;go_wp2
 -- the door: two deferred calls, the last laid first
 refine leaves_cons (f:=204) (args:=#[.pointer (some ⟨r,0,none⟩),.bool true]) (by simp) (by simp [go_sem]) ?_;refine (Zhh ⟨r,0,none⟩ (.int .u32 0) .returning _ q0 z0).mono ?_;rintro e u' w'' ⟨rfl,rfl,rfl⟩;refine leaves_cons (f:=203) (args:=#[.pointer (some ⟨r,1,none⟩)]) (by simp [settle]) (by simp [go_sem]) ?_;refine (unlock_deferred Z3x ⟨r,1,none⟩ _ _ ?_ (by simp [z1])).mono ?_
 . refine (World.cell?_setCell_other _ ⟨r,0,none⟩ ⟨r,1,none⟩ _ (by simp)).trans ?_;rw [World.cell?_drew];exact q1
 rintro e u' w'' ⟨rfl,rfl,rfl⟩;exact ⟨_,results_none rfl _ _ _,rfl,w2,hq,rfl⟩
set_option maxRecDepth 100000 in
theorem Z1x (r:Nat)(fv:Value)(args:Array Value)(hfv:fv=.func (.func 158) args #[])(w:World)(Q:World->Prop)
 (h0:w.cell? ⟨r,0,none⟩=some (.int .u32 0)) (h1:w.cell? ⟨r,1,none⟩=some (.int .i32 0)) (f1:w.frozen? ⟨r,1,none⟩=false)
 (hB:Calls Tryz.prog 158 args (w.setCell ⟨r,1,none⟩ (.int .i32 1)) λe w'=>e=.returned (.tuple #[])/\Q w')
 (hQ:∀w',Q w'->w'.cell? ⟨r,0,none⟩=some (.int .u32 0)/\w'.cell? ⟨r,1,none⟩=some (.int .i32 1)/\w'.frozen? ⟨r,0,none⟩=false/\w'.frozen? ⟨r,1,none⟩=false) :
 Calls Tryz.prog 157 #[.pointer (some ⟨r,0,none⟩),fv] w λe w'=>e=.returned (.tuple #[])/\∃w2,Q w2/\w'=(w2.drew.setCell ⟨r,0,none⟩ (.int .u32 1)).setCell ⟨r,1,none⟩ (.int .i32 0):=by
 have hl:=run_call_load (P:=Tryz.prog) Tryz.func201 (by kernel_rfl) (by kernel_rfl) (by kernel_rfl) .u32 (by kernel_rfl) h0;have hnot:∀(x:Bool) (w:World),(Op.unary .not (.bool x)).run Tryz.prog w=.ok (.bool (!x)) w:=λ_ _=>rfl;go_enter Tryz.func157,Tryz.ntmps157
 go_wp2_with (go_at_call 179;go_in)
 refine (Zww r _ 158 args rfl rfl _ Q h0 h1 f1 hB hQ).mono ?_;rintro e w' ⟨rfl,w2,hq,rfl⟩;go_wp2
 go_end0
 exact ⟨rfl,w2,hq,rfl⟩
end Go.Proofs.YtpheiojmcafolaaGreatDoor
namespace Go.Proofs.YtpheiojmcafolaaGreatDoor
open Go.RowKit Go.Sort
theorem Znx (r:Nat)(w:World)(s:ByteArray)(hr:Z0l w r)(hs:s.size<=1000) :
 Calls Tryz.prog 127 #[.pointer (some ⟨r,0,none⟩),.string s] w λe w'=>e=.returned (.string ⟨(Ji s.toList).toArray⟩)/\Yk w.heap.size r w w':=by
 obtain ⟨A,c,hb,hsl⟩:=hr;have hlt:=hb.lt;have c0:w.cell? ⟨r,0,none⟩=some (.int .u32 0):=hb.cell 0;have c1:w.cell? ⟨r,1,none⟩=some (.int .i32 0):=hb.cell 1;have f1:=hb.frozen 1;have hb1:Blk (w.setCell ⟨r,1,none⟩ (.int .i32 1)) r 237 #[.int .u32 0,.int .i32 1,.int .u32 0,.nilIface,.slice A 4 c]:=hb.set 1 _;have hB:Calls Tryz.prog 158 #[.pointer (some ⟨r,0,none⟩)] (w.setCell ⟨r,1,none⟩ (.int .i32 1)) λe w'=>e=.returned (.tuple #[])/\(Zsy w' w.heap.size r (.int .u32 0) (.int .i32 1) (.int .u32 0)/\Yk w.heap.size r w w'):=by
  refine (Zjt r _ A c _ _ _ _ hb1 ?_).mono ?_
  . rw [World.size_setCell];exact (hsl.keep λp hp=>World.cell?_setCell_other w ⟨r,1,none⟩ p _ (by rintro rfl;simp at hp)).more (Nat.le_of_lt hlt)
  . rintro e w' ⟨rfl,h1,h2⟩;rw [World.size_setCell] at h1 h2;exact ⟨rfl,h1,((Yk.refl _ _ _).setCell (p:=⟨r,1,none⟩) (.inl rfl) _).trans h2⟩
 have hm:∀(a:Addr) (w:World),(method 513 311 (.pointer (some a)) "Replace").run Tryz.prog w=.ok (302,.pointer (some a)) w:=λ_ _=>by kernel_rfl
 go_enter Tryz.func127,Tryz.ntmps127
 go_wp2_with fail
 refine (Z1x r _ #[.pointer (some ⟨r,0,none⟩)] rfl w _ c0 c1 f1 hB ?_).mono ?_
 . rintro w' ⟨⟨g,hd,_⟩,_⟩;exact ⟨hd.cell 0,hd.cell 1,hd.frozen 0,hd.frozen 1⟩
 rintro e w' ⟨rfl,w2,⟨⟨g,hd,htab⟩,honly⟩,rfl⟩;have hlt2:r < w2.heap.size:=hd.lt;have hd4:Blk ((w2.drew.setCell ⟨r,0,none⟩ (.int .u32 1)).setCell ⟨r,1,none⟩ (.int .i32 0)) r 237 #[.int .u32 1,.int .i32 0,.int .u32 0,.iface 311 (.pointer (some ⟨g,0,none⟩)),.slice none 0 0]:=(hd.drew.set 0 _).set 1 _;have ht4:Zda ((w2.drew.setCell ⟨r,0,none⟩ (.int .u32 1)).setCell ⟨r,1,none⟩ (.int .i32 0)) w.heap.size ((w2.drew.setCell ⟨r,0,none⟩ (.int .u32 1)).setCell ⟨r,1,none⟩ (.int .i32 0)).heap.size g:=by
  rw [World.size_setCell,World.size_setCell];exact htab.keep (by rw [World.size_setCell,World.size_setCell];exact nL _) λg i hg _=>(World.cell?_setCell_other _ ⟨r,1,none⟩ ⟨g,i,none⟩ _ (by simp)).trans (World.cell?_setCell_other w2.drew ⟨r,0,none⟩ ⟨g,i,none⟩ _ (by simp))
 have ho4:Yk w.heap.size r w ((w2.drew.setCell ⟨r,0,none⟩ (.int .u32 1)).setCell ⟨r,1,none⟩ (.int .i32 0)):=(honly.drew.setCell (p:=⟨r,0,none⟩) (.inl rfl) _).setCell (p:=⟨r,1,none⟩) (.inl rfl) _;generalize hW:(w2.drew.setCell ⟨r,0,none⟩ (.int .u32 1)).setCell ⟨r,1,none⟩ (.int .i32 0)=W at hd4 ht4 ho4 ⊢;clear hW hB hd htab honly hsl hb hb1 c0 c1 f1;have c3:W.cell? ⟨r,3,none⟩=some (.iface 311 (.pointer (some ⟨g,0,none⟩))):=hd4.cell 3;go_wp2_with fail
 refine (Znt g w.heap.size s W ht4 hs).mono ?_;rintro e w' ⟨rfl,hbw⟩;go_wp2_with fail
 go_ret
 exact ⟨rfl,ho4.trans (Yk.of_below hbw (by have:=ho4.size;exact this))⟩
set_option maxRecDepth 100000 in
theorem Zp7 (s:ByteArray)(w:World)(hs:s.size<=140737488351232) :
 Calls Tryz.prog 92 #[.string s] w λe w'=>e=.returned (.tuple #[encStr (Zbz s.toList),Yh (Yi s.toList)])/\Below w.heap.size w w':=by
 by_cases he:Yi s.toList=0
 . have h60:s.size<=1000:=by
    unfold Yi at he;split at he
    . cases he
    . rename_i h;rw [Zk] at h;omega
   have HE:=Ld he;clear he;have hP:=Ju s;rw [HE.out,Zv] at hP;have HP:=Ld hP;clear hP;go_enter Tryz.func92,Tryz.ntmps92
   go_wp2_with fail
   refine (HP.out _ hs).mono ?_;rintro e w1 ⟨rfl,hb1⟩;go_wp2_with fail
   refine (Z1z w1.heap.size _ (by simp) ?_).mono ?_
   . intro i l hl;rw [World.cell?_alloc_new];match i,hl with
     | 0,hl=>cases hl;rfl
     | 1,hl=>cases hl;rfl
     | 2,hl=>cases hl;rfl
     | 3,hl=>cases hl;rfl
   rintro e w2 ⟨r,rfl,hr,hrep,hb2⟩;have hbel:Below w.heap.size w w2:=(hb1.alloc hb1.size _).trans (hb2.mono (by simp;have:=hb1.size;omega));have hrw:w.heap.size<=r:=by simp at hr;have:=hb1.size;omega
   clear hb2 hr hb1;go_wp2_with fail
   refine (Znx r w2 s hrep h60).mono ?_;rintro e w3 ⟨rfl,ho⟩;have hqz:(⟨(Ji s.toList).toArray⟩:ByteArray).size<=2000:=by
    show (Ji s.toList).toArray.size<=2000;rw [List.size_toArray,Zet];have:=Zh8 s.toList;rw [Zk] at this ⊢;omega
   generalize hq:(⟨(Ji s.toList).toArray⟩:ByteArray)=qs at hqz ⊢;have HQ:=Ld hq;clear hq;go_wp2_with fail
   go_ret2
   refine ⟨?_,hbel.trans (ho.below hbel.size hrw)⟩;rw [Zbz,if_pos HE.out,HE.out,Zv,<-HQ.out];rfl
 . have hne:(Yi s.toList != 0)=true:=by simp [he]
   have HE:=Ld he;clear he;go_enter Tryz.func92,Tryz.ntmps92
   go_wp2_with fail
   refine (Ju s _ hs).mono ?_;rintro e w1 ⟨rfl,hb1⟩;go_wp2_with fail
   go_ret2
   exact ⟨by rw [Zbz,if_neg HE.out];rfl,hb1⟩
end Go.Proofs.YtpheiojmcafolaaGreatDoor
