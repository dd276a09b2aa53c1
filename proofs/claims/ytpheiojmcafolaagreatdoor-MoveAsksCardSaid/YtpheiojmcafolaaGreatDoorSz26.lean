/-
 THE WALKS: eval.Value.
-/
import Derived.Test.YtpheiojmcafolaaGreatDoorSz25
set_option maxRecDepth 100000
set_option maxHeartbeats 25600000
namespace Go.Proofs.YtpheiojmcafolaaGreatDoor
open Go.RowKit Go.Sort
structure Zms (x:Evl)(w:World):Prop where
 ents:Jg w x.Ea x.hs x.es
 ai:∀e∈x.es,NdI e.at_
 ec:x.hs.length<=x.ec
 ctx:Ye w w.heap.size x.qa x.q.ctx
 qc:x.q.ctx.length<=x.qc/\x.qc<=9223372036854775807
 qk:Y0 x.q.ctx
 qi:NdI x.q.ctx
 qz:Km x.q.who/\Km x.q.act/\Km x.q.what
 ex:Ye w w.heap.size x.ea x.e
 eca:x.e.length<=x.eca/\x.eca<=9223372036854775807
 ek:Y0 x.e
 ei:NdI x.e
 err:Yy w
theorem Zms.later {x:Evl}{w w':World}(h:Zms x w)(hb:RowKit.Below w.heap.size w w'):Zms x w':=
 ⟨h.ents.later hb,h.ai,h.ec,(h.ctx.below hb).more hb.size,h.qc,h.qk,h.qi,h.qz,(h.ex.below hb).more hb.size,h.eca,h.ek,h.ei,h.err.below hb h.err.lt⟩
theorem Zvz (w:World)(b:Nat)(k:Int)(u:Value)(hc:w.cell? ⟨b,0,none⟩=some u)(hf:w.frozen? ⟨b,0,none⟩=false):Sem.run Tryz.prog (storeCells ⟨b,0,none⟩ [Yh k]) w=.ok () (w.setCell ⟨b,0,none⟩ (Yh k)):=by
 unfold Yh;split <;> simp [storeCells,hc,hf,go_sem]
theorem Z1e (x:Evl)(w:World)(h:Zms x w)(h1:Ym x.es≠0) :
 Calls Tryz.prog 19 #[.slice x.Ea x.hs.length x.ec,.agg #[.string x.q.who.ty,.string x.q.who.id,.string x.q.act.ty,.string x.q.act.id,.string x.q.what.ty,.string x.q.what.id,.slice x.qa x.q.ctx.length x.qc],.slice x.ea x.e.length x.eca] w λr w'=>r=.returned (.tuple #[.slice none 0 0,Yh (Ym x.es)])/\RowKit.Below w.heap.size w w':=by
 have hmf:∀(fn:Fn) (first cap:Array Value) (w:World),(Instr.makeFunc fn first cap).run Tryz.prog w=.ok (.func fn first cap) w:=λ_ _ _ _=>rfl;have HE:=Ld (λW (hb:RowKit.Below w.heap.size w W)=>Ul x.hs x.es x.Ea x.ec W (h.later hb).ents h.ec);have HA:=Ld (λW (hb:RowKit.Below w.heap.size w W)=>Qj x.q x.qa x.qc W h.qz.1 h.qz.2.1 h.qz.2.2 h.qc.1 h.qc.2 h.qk (h.later hb).ctx);have HT:=Ld (λW (hb:RowKit.Below w.heap.size w W)=>Ux x.e x.ea x.eca W h.eca.1 h.eca.2 h.ek (h.later hb).ex);have HH:=Ld h;have b0:Blk (((w.alloc (.cells #[.string x.q.who.ty,.string x.q.who.id,.string x.q.act.ty,.string x.q.act.id,.string x.q.what.ty,.string x.q.what.id,.slice x.qa x.q.ctx.length x.qc] 39)).alloc (.cells #[.slice none 0 0] 22)).alloc (.cells #[.nilIface] 27)) w.heap.size 39 #[.string x.q.who.ty,.string x.q.who.id,.string x.q.act.ty,.string x.q.act.id,.string x.q.what.ty,.string x.q.what.id,.slice x.qa x.q.ctx.length x.qc]:=((Blk.new w _ _).alloc _).alloc _;have b1:Blk (((w.alloc (.cells #[.string x.q.who.ty,.string x.q.who.id,.string x.q.act.ty,.string x.q.act.id,.string x.q.what.ty,.string x.q.what.id,.slice x.qa x.q.ctx.length x.qc] 39)).alloc (.cells #[.slice none 0 0] 22)).alloc (.cells #[.nilIface] 27)) (w.heap.size+1) 22 #[.slice none 0 0]:=by
  have:=(Blk.new (w.alloc (.cells #[.string x.q.who.ty,.string x.q.who.id,.string x.q.act.ty,.string x.q.act.id,.string x.q.what.ty,.string x.q.what.id,.slice x.qa x.q.ctx.length x.qc] 39)) 22 #[.slice none 0 0]).alloc (.cells #[.nilIface] 27);rwa [World.size_alloc] at this
 have b2:Blk (((w.alloc (.cells #[.string x.q.who.ty,.string x.q.who.id,.string x.q.act.ty,.string x.q.act.id,.string x.q.what.ty,.string x.q.what.id,.slice x.qa x.q.ctx.length x.qc] 39)).alloc (.cells #[.slice none 0 0] 22)).alloc (.cells #[.nilIface] 27)) (w.heap.size+1+1) 27 #[.nilIface]:=by
  have:=Blk.new ((w.alloc (.cells #[.string x.q.who.ty,.string x.q.who.id,.string x.q.act.ty,.string x.q.act.id,.string x.q.what.ty,.string x.q.what.id,.slice x.qa x.q.ctx.length x.qc] 39)).alloc (.cells #[.slice none 0 0] 22)) 27 #[.nilIface];rwa [World.size_alloc,World.size_alloc] at this
 have hb0:RowKit.Below w.heap.size w (((w.alloc (.cells #[.string x.q.who.ty,.string x.q.who.id,.string x.q.act.ty,.string x.q.act.id,.string x.q.what.ty,.string x.q.what.id,.slice x.qa x.q.ctx.length x.qc] 39)).alloc (.cells #[.slice none 0 0] 22)).alloc (.cells #[.nilIface] 27)):=by (repeat (first | assumption | exact bR | apply bD | apply Za | refine bA ?_ _))
 have t1:(Ym x.es != 0)=true:=by simpa using h1
 generalize Ym x.es=k at t1 h1 HE ⊢;have he1:Yh k=.iface 96 (.int .i64 k):=by unfold Yh;rw [if_neg h1]
 rw [he1];have HE1:=Ld he1;clear h1;clear h;go_enter_defers Tryz.func19,Tryz.ntmps19
 go_wp2_with fail
 generalize (((w.alloc (.cells #[.string x.q.who.ty,.string x.q.who.id,.string x.q.act.ty,.string x.q.act.id,.string x.q.what.ty,.string x.q.what.id,.slice x.qa x.q.ctx.length x.qc] 39)).alloc (.cells #[.slice none 0 0] 22)).alloc (.cells #[.nilIface] 27))=w1 at b0 b1 b2 hb0 ⊢;have B0:=Ld b0;have B1:=Ld b1;have B2:=Ld b2;have HB0:=Ld hb0;clear b0 b1 b2;refine (HE.out w1 HB0.out).mono ?_;rintro r w2 ⟨hr,hb2⟩;rw [he1] at hr;subst hr;have hbw2:=hb0.trans (hb2.mono hb0.size);have c1:w2.cell? ⟨w.heap.size+1,0,none⟩=some (.slice none 0 0):=(B1.out.below hb2 B1.out.lt).cell 0;have f1:w2.frozen? ⟨w.heap.size+1,0,none⟩=false:=(B1.out.below hb2 B1.out.lt).frozen 0;have c2:w2.cell? ⟨w.heap.size+1+1,0,none⟩=some .nilIface:=(B2.out.below hb2 B2.out.lt).cell 0;have f2:w2.frozen? ⟨w.heap.size+1+1,0,none⟩=false:=(B2.out.below hb2 B2.out.lt).frozen 0;have HBW2:=Ld hbw2;have hse:∀k,Sem.run Tryz.prog (storeCells ⟨w.heap.size+1+1,0,none⟩ [Yh k]) (w2.setCell ⟨w.heap.size+1,0,none⟩ (.slice none 0 0))=.ok () ((w2.setCell ⟨w.heap.size+1,0,none⟩ (.slice none 0 0)).setCell ⟨w.heap.size+1+1,0,none⟩ (Yh k)):=λk=>
  Zvz _ _ k .nilIface ((World.cell?_of_block (w:=w2) (a:=⟨w.heap.size+1+1,0,none⟩) (RowKit.Below.heap_setCell _ _ _ _ (by simp))).trans c2) ((World.frozen?_of_block (w:=w2) (a:=⟨w.heap.size+1+1,0,none⟩) (RowKit.Below.heap_setCell _ _ _ _ (by simp))).trans f2)
 clear hb2 hbw2 hse he1;go_wp2_with fail
 have hcA:(w2.setCell ⟨w.heap.size+1,0,none⟩ (.slice none 0 0)).cell? ⟨w.heap.size+1,0,none⟩=some (.slice none 0 0):=World.cell?_setCell_same _ _ _ c1;have hcB:((w2.setCell ⟨w.heap.size+1,0,none⟩ (.slice none 0 0)).setCell ⟨w.heap.size+1+1,0,none⟩ (.iface 96 (.int .i64 k))).cell? ⟨w.heap.size+1+1,0,none⟩=some (.iface 96 (.int .i64 k)):=
  World.cell?_setCell_same _ _ _ ((World.cell?_of_block (w:=w2) (a:=⟨w.heap.size+1+1,0,none⟩) (RowKit.Below.heap_setCell _ _ _ _ (by simp))).trans c2)
 have hbF:RowKit.Below w.heap.size w ((w2.setCell ⟨w.heap.size+1,0,none⟩ (.slice none 0 0)).setCell ⟨w.heap.size+1+1,0,none⟩ (.iface 96 (.int .i64 k))):=(HBW2.out.setCell (by simp) _).setCell (by show _<=w.heap.size+1+1;omega) _;simp [bodyPostD,Leaves,results,Tryz.results19,go_sem,hcA,hcB,hbF]
theorem Z2n (x:Evl)(w:World)(h:Zms x w)(h0:Ym x.es=0)(h1:Vr x.q≠0) :
 Calls Tryz.prog 19 #[.slice x.Ea x.hs.length x.ec,.agg #[.string x.q.who.ty,.string x.q.who.id,.string x.q.act.ty,.string x.q.act.id,.string x.q.what.ty,.string x.q.what.id,.slice x.qa x.q.ctx.length x.qc],.slice x.ea x.e.length x.eca] w λr w'=>r=.returned (.tuple #[.slice none 0 0,Yh (Vr x.q)])/\RowKit.Below w.heap.size w w':=by
 have hmf:∀(fn:Fn) (first cap:Array Value) (w:World),(Instr.makeFunc fn first cap).run Tryz.prog w=.ok (.func fn first cap) w:=λ_ _ _ _=>rfl;have HE:=Ld (λW (hb:RowKit.Below w.heap.size w W)=>Ul x.hs x.es x.Ea x.ec W (h.later hb).ents h.ec);have HA:=Ld (λW (hb:RowKit.Below w.heap.size w W)=>Qj x.q x.qa x.qc W h.qz.1 h.qz.2.1 h.qz.2.2 h.qc.1 h.qc.2 h.qk (h.later hb).ctx);have HT:=Ld (λW (hb:RowKit.Below w.heap.size w W)=>Ux x.e x.ea x.eca W h.eca.1 h.eca.2 h.ek (h.later hb).ex);have HH:=Ld h;have b0:Blk (((w.alloc (.cells #[.string x.q.who.ty,.string x.q.who.id,.string x.q.act.ty,.string x.q.act.id,.string x.q.what.ty,.string x.q.what.id,.slice x.qa x.q.ctx.length x.qc] 39)).alloc (.cells #[.slice none 0 0] 22)).alloc (.cells #[.nilIface] 27)) w.heap.size 39 #[.string x.q.who.ty,.string x.q.who.id,.string x.q.act.ty,.string x.q.act.id,.string x.q.what.ty,.string x.q.what.id,.slice x.qa x.q.ctx.length x.qc]:=((Blk.new w _ _).alloc _).alloc _;have b1:Blk (((w.alloc (.cells #[.string x.q.who.ty,.string x.q.who.id,.string x.q.act.ty,.string x.q.act.id,.string x.q.what.ty,.string x.q.what.id,.slice x.qa x.q.ctx.length x.qc] 39)).alloc (.cells #[.slice none 0 0] 22)).alloc (.cells #[.nilIface] 27)) (w.heap.size+1) 22 #[.slice none 0 0]:=by
  have:=(Blk.new (w.alloc (.cells #[.string x.q.who.ty,.string x.q.who.id,.string x.q.act.ty,.string x.q.act.id,.string x.q.what.ty,.string x.q.what.id,.slice x.qa x.q.ctx.length x.qc] 39)) 22 #[.slice none 0 0]).alloc (.cells #[.nilIface] 27);rwa [World.size_alloc] at this
 have b2:Blk (((w.alloc (.cells #[.string x.q.who.ty,.string x.q.who.id,.string x.q.act.ty,.string x.q.act.id,.string x.q.what.ty,.string x.q.what.id,.slice x.qa x.q.ctx.length x.qc] 39)).alloc (.cells #[.slice none 0 0] 22)).alloc (.cells #[.nilIface] 27)) (w.heap.size+1+1) 27 #[.nilIface]:=by
  have:=Blk.new ((w.alloc (.cells #[.string x.q.who.ty,.string x.q.who.id,.string x.q.act.ty,.string x.q.act.id,.string x.q.what.ty,.string x.q.what.id,.slice x.qa x.q.ctx.length x.qc] 39)).alloc (.cells #[.slice none 0 0] 22)) 27 #[.nilIface];rwa [World.size_alloc,World.size_alloc] at this
 have hb0:RowKit.Below w.heap.size w (((w.alloc (.cells #[.string x.q.who.ty,.string x.q.who.id,.string x.q.act.ty,.string x.q.act.id,.string x.q.what.ty,.string x.q.what.id,.slice x.qa x.q.ctx.length x.qc] 39)).alloc (.cells #[.slice none 0 0] 22)).alloc (.cells #[.nilIface] 27)):=by (repeat (first | assumption | exact bR | apply bD | apply Za | refine bA ?_ _))
 have he0:Yh (Ym x.es)=.nilIface:=by rw [h0];rfl
 generalize Vr x.q=k at h1 HA ⊢;have he1:Yh k=.iface 96 (.int .i64 k):=by unfold Yh;rw [if_neg h1]
 rw [he1];clear h1;clear h;go_enter_defers Tryz.func19,Tryz.ntmps19
 go_wp2_with fail
 generalize (((w.alloc (.cells #[.string x.q.who.ty,.string x.q.who.id,.string x.q.act.ty,.string x.q.act.id,.string x.q.what.ty,.string x.q.what.id,.slice x.qa x.q.ctx.length x.qc] 39)).alloc (.cells #[.slice none 0 0] 22)).alloc (.cells #[.nilIface] 27))=w1 at b0 b1 b2 hb0 ⊢;have B01:=Ld b0;have B11:=Ld b1;have B21:=Ld b2;have BW1:=Ld hb0;clear b0 b1 b2 hb0;refine (HE.out w1 BW1.out).mono ?_;rintro r w2 ⟨hr,hb2⟩;rw [he0] at hr;subst hr;have B02:=Ld (B01.out.below hb2 B01.out.lt);have B12:=Ld (B11.out.below hb2 B11.out.lt);have B22:=Ld (B21.out.below hb2 B21.out.lt);have BW2:=Ld (BW1.out.trans (hb2.mono BW1.out.size));clear hb2;have q20:w2.cell? ⟨w.heap.size,0,none⟩=some (.string x.q.who.ty):=B02.out.cell 0;have q21:w2.cell? ⟨w.heap.size,1,none⟩=some (.string x.q.who.id):=B02.out.cell 1;have q22:w2.cell? ⟨w.heap.size,2,none⟩=some (.string x.q.act.ty):=B02.out.cell 2;have q23:w2.cell? ⟨w.heap.size,3,none⟩=some (.string x.q.act.id):=B02.out.cell 3;have q24:w2.cell? ⟨w.heap.size,4,none⟩=some (.string x.q.what.ty):=B02.out.cell 4;have q25:w2.cell? ⟨w.heap.size,5,none⟩=some (.string x.q.what.id):=B02.out.cell 5;have q26:w2.cell? ⟨w.heap.size,6,none⟩=some (.slice x.qa x.q.ctx.length x.qc):=B02.out.cell 6;go_wp2_with fail
 refine (HA.out w2 BW2.out).mono ?_;rintro r w3 ⟨hr,hb3⟩;rw [he1] at hr;subst hr;have B03:=Ld (B02.out.below hb3 B02.out.lt);have B13:=Ld (B12.out.below hb3 B12.out.lt);have B23:=Ld (B22.out.below hb3 B22.out.lt);have BW3:=Ld (BW2.out.trans (hb3.mono BW2.out.size));clear hb3;have c1:w3.cell? ⟨w.heap.size+1,0,none⟩=some (.slice none 0 0):=B13.out.cell 0;have f1:w3.frozen? ⟨w.heap.size+1,0,none⟩=false:=B13.out.frozen 0;have c2:w3.cell? ⟨w.heap.size+1+1,0,none⟩=some .nilIface:=B23.out.cell 0;have f2:w3.frozen? ⟨w.heap.size+1+1,0,none⟩=false:=B23.out.frozen 0;clear he1 he0;go_wp2_with fail
 have hcA:(w3.setCell ⟨w.heap.size+1,0,none⟩ (.slice none 0 0)).cell? ⟨w.heap.size+1,0,none⟩=some (.slice none 0 0):=World.cell?_setCell_same _ _ _ c1;have hcB:((w3.setCell ⟨w.heap.size+1,0,none⟩ (.slice none 0 0)).setCell ⟨w.heap.size+1+1,0,none⟩ (.iface 96 (.int .i64 k))).cell? ⟨w.heap.size+1+1,0,none⟩=some (.iface 96 (.int .i64 k)):=
  World.cell?_setCell_same _ _ _ ((World.cell?_of_block (w:=w3) (a:=⟨w.heap.size+1+1,0,none⟩) (RowKit.Below.heap_setCell _ _ _ _ (by simp))).trans c2)
 have hbF:RowKit.Below w.heap.size w ((w3.setCell ⟨w.heap.size+1,0,none⟩ (.slice none 0 0)).setCell ⟨w.heap.size+1+1,0,none⟩ (.iface 96 (.int .i64 k))):=(BW3.out.setCell (by simp) _).setCell (by show _<=w.heap.size+1+1;omega) _;simp [bodyPostD,Leaves,results,Tryz.results19,go_sem,hcA,hcB,hbF]
theorem Z3d (x:Evl)(w:World)(h:Zms x w)(h0:Ym x.es=0)(h00:Vr x.q=0)(h1:Zo x.e≠0) :
 Calls Tryz.prog 19 #[.slice x.Ea x.hs.length x.ec,.agg #[.string x.q.who.ty,.string x.q.who.id,.string x.q.act.ty,.string x.q.act.id,.string x.q.what.ty,.string x.q.what.id,.slice x.qa x.q.ctx.length x.qc],.slice x.ea x.e.length x.eca] w λr w'=>r=.returned (.tuple #[.slice none 0 0,Yh (Zo x.e)])/\RowKit.Below w.heap.size w w':=by
 have hmf:∀(fn:Fn) (first cap:Array Value) (w:World),(Instr.makeFunc fn first cap).run Tryz.prog w=.ok (.func fn first cap) w:=λ_ _ _ _=>rfl;have HE:=Ld (λW (hb:RowKit.Below w.heap.size w W)=>Ul x.hs x.es x.Ea x.ec W (h.later hb).ents h.ec);have HA:=Ld (λW (hb:RowKit.Below w.heap.size w W)=>Qj x.q x.qa x.qc W h.qz.1 h.qz.2.1 h.qz.2.2 h.qc.1 h.qc.2 h.qk (h.later hb).ctx);have HT:=Ld (λW (hb:RowKit.Below w.heap.size w W)=>Ux x.e x.ea x.eca W h.eca.1 h.eca.2 h.ek (h.later hb).ex);have HH:=Ld h;have b0:Blk (((w.alloc (.cells #[.string x.q.who.ty,.string x.q.who.id,.string x.q.act.ty,.string x.q.act.id,.string x.q.what.ty,.string x.q.what.id,.slice x.qa x.q.ctx.length x.qc] 39)).alloc (.cells #[.slice none 0 0] 22)).alloc (.cells #[.nilIface] 27)) w.heap.size 39 #[.string x.q.who.ty,.string x.q.who.id,.string x.q.act.ty,.string x.q.act.id,.string x.q.what.ty,.string x.q.what.id,.slice x.qa x.q.ctx.length x.qc]:=((Blk.new w _ _).alloc _).alloc _;have b1:Blk (((w.alloc (.cells #[.string x.q.who.ty,.string x.q.who.id,.string x.q.act.ty,.string x.q.act.id,.string x.q.what.ty,.string x.q.what.id,.slice x.qa x.q.ctx.length x.qc] 39)).alloc (.cells #[.slice none 0 0] 22)).alloc (.cells #[.nilIface] 27)) (w.heap.size+1) 22 #[.slice none 0 0]:=by
  have:=(Blk.new (w.alloc (.cells #[.string x.q.who.ty,.string x.q.who.id,.string x.q.act.ty,.string x.q.act.id,.string x.q.what.ty,.string x.q.what.id,.slice x.qa x.q.ctx.length x.qc] 39)) 22 #[.slice none 0 0]).alloc (.cells #[.nilIface] 27);rwa [World.size_alloc] at this
 have b2:Blk (((w.alloc (.cells #[.string x.q.who.ty,.string x.q.who.id,.string x.q.act.ty,.string x.q.act.id,.string x.q.what.ty,.string x.q.what.id,.slice x.qa x.q.ctx.length x.qc] 39)).alloc (.cells #[.slice none 0 0] 22)).alloc (.cells #[.nilIface] 27)) (w.heap.size+1+1) 27 #[.nilIface]:=by
  have:=Blk.new ((w.alloc (.cells #[.string x.q.who.ty,.string x.q.who.id,.string x.q.act.ty,.string x.q.act.id,.string x.q.what.ty,.string x.q.what.id,.slice x.qa x.q.ctx.length x.qc] 39)).alloc (.cells #[.slice none 0 0] 22)) 27 #[.nilIface];rwa [World.size_alloc,World.size_alloc] at this
 have hb0:RowKit.Below w.heap.size w (((w.alloc (.cells #[.string x.q.who.ty,.string x.q.who.id,.string x.q.act.ty,.string x.q.act.id,.string x.q.what.ty,.string x.q.what.id,.slice x.qa x.q.ctx.length x.qc] 39)).alloc (.cells #[.slice none 0 0] 22)).alloc (.cells #[.nilIface] 27)):=by (repeat (first | assumption | exact bR | apply bD | apply Za | refine bA ?_ _))
 have he0:Yh (Ym x.es)=.nilIface:=by rw [h0];rfl
 have he00:Yh (Vr x.q)=.nilIface:=by rw [h00];rfl
 generalize Zo x.e=k at h1 HT ⊢;have he1:Yh k=.iface 96 (.int .i64 k):=by unfold Yh;rw [if_neg h1]
 rw [he1];clear h1;clear h;go_enter_defers Tryz.func19,Tryz.ntmps19
 go_wp2_with fail
 generalize (((w.alloc (.cells #[.string x.q.who.ty,.string x.q.who.id,.string x.q.act.ty,.string x.q.act.id,.string x.q.what.ty,.string x.q.what.id,.slice x.qa x.q.ctx.length x.qc] 39)).alloc (.cells #[.slice none 0 0] 22)).alloc (.cells #[.nilIface] 27))=w1 at b0 b1 b2 hb0 ⊢;have B01:=Ld b0;have B11:=Ld b1;have B21:=Ld b2;have BW1:=Ld hb0;clear b0 b1 b2 hb0;refine (HE.out w1 BW1.out).mono ?_;rintro r w2 ⟨hr,hb2⟩;rw [he0] at hr;subst hr;have B02:=Ld (B01.out.below hb2 B01.out.lt);have B12:=Ld (B11.out.below hb2 B11.out.lt);have B22:=Ld (B21.out.below hb2 B21.out.lt);have BW2:=Ld (BW1.out.trans (hb2.mono BW1.out.size));clear hb2;have q20:w2.cell? ⟨w.heap.size,0,none⟩=some (.string x.q.who.ty):=B02.out.cell 0;have q21:w2.cell? ⟨w.heap.size,1,none⟩=some (.string x.q.who.id):=B02.out.cell 1;have q22:w2.cell? ⟨w.heap.size,2,none⟩=some (.string x.q.act.ty):=B02.out.cell 2;have q23:w2.cell? ⟨w.heap.size,3,none⟩=some (.string x.q.act.id):=B02.out.cell 3;have q24:w2.cell? ⟨w.heap.size,4,none⟩=some (.string x.q.what.ty):=B02.out.cell 4;have q25:w2.cell? ⟨w.heap.size,5,none⟩=some (.string x.q.what.id):=B02.out.cell 5;have q26:w2.cell? ⟨w.heap.size,6,none⟩=some (.slice x.qa x.q.ctx.length x.qc):=B02.out.cell 6;go_wp2_with fail
 refine (HA.out w2 BW2.out).mono ?_;rintro r w3 ⟨hr,hb3⟩;rw [he00] at hr;subst hr;have B03:=Ld (B02.out.below hb3 B02.out.lt);have B13:=Ld (B12.out.below hb3 B12.out.lt);have B23:=Ld (B22.out.below hb3 B22.out.lt);have BW3:=Ld (BW2.out.trans (hb3.mono BW2.out.size));clear hb3;go_wp2_with fail
 refine (HT.out w3 BW3.out).mono ?_;rintro r w4 ⟨hr,hb4⟩;rw [he1] at hr;subst hr;have B04:=Ld (B03.out.below hb4 B03.out.lt);have B14:=Ld (B13.out.below hb4 B13.out.lt);have B24:=Ld (B23.out.below hb4 B23.out.lt);have BW4:=Ld (BW3.out.trans (hb4.mono BW3.out.size));clear hb4;have c1:w4.cell? ⟨w.heap.size+1,0,none⟩=some (.slice none 0 0):=B14.out.cell 0;have f1:w4.frozen? ⟨w.heap.size+1,0,none⟩=false:=B14.out.frozen 0;have c2:w4.cell? ⟨w.heap.size+1+1,0,none⟩=some .nilIface:=B24.out.cell 0;have f2:w4.frozen? ⟨w.heap.size+1+1,0,none⟩=false:=B24.out.frozen 0;clear he1 he0 he00;go_wp2_with fail
 have hcA:(w4.setCell ⟨w.heap.size+1,0,none⟩ (.slice none 0 0)).cell? ⟨w.heap.size+1,0,none⟩=some (.slice none 0 0):=World.cell?_setCell_same _ _ _ c1;have hcB:((w4.setCell ⟨w.heap.size+1,0,none⟩ (.slice none 0 0)).setCell ⟨w.heap.size+1+1,0,none⟩ (.iface 96 (.int .i64 k))).cell? ⟨w.heap.size+1+1,0,none⟩=some (.iface 96 (.int .i64 k)):=
  World.cell?_setCell_same _ _ _ ((World.cell?_of_block (w:=w4) (a:=⟨w.heap.size+1+1,0,none⟩) (RowKit.Below.heap_setCell _ _ _ _ (by simp))).trans c2)
 have hbF:RowKit.Below w.heap.size w ((w4.setCell ⟨w.heap.size+1,0,none⟩ (.slice none 0 0)).setCell ⟨w.heap.size+1+1,0,none⟩ (.iface 96 (.int .i64 k))):=(BW4.out.setCell (by simp) _).setCell (by show _<=w.heap.size+1+1;omega) _;simp [bodyPostD,Leaves,results,Tryz.results19,go_sem,hcA,hcB,hbF]
theorem Zms.evin {x:Evl}{w w':World}(h:Zms x w)(h1:Ym x.es=0)(h2:Vr x.q=0)(h3:x.e.length<=200)(hb:RowKit.Below w.heap.size w w'):V0 x w.heap.size w':=
 ⟨h.ents.sl.below hb,h.ents.ens.below hb,h.ents.uz,h.ents.pz,h.ents.az,h.ai,h.ec,h1,h.ctx.below hb,h.qc,h.qk,h.qi,h2,h.qz,h.ex.below hb,h.eca,h.ek,h.ei,h3,h.err.below hb h.err.lt,h.err.lt⟩
theorem Z3f (x:Evl)(w:World)(h:Zms x w)(h0:Ym x.es=0)(h00:Vr x.q=0)(h1:Zo x.e=0)(hf:Zgy x) :
 Calls Tryz.prog 19 #[.slice x.Ea x.hs.length x.ec,.agg #[.string x.q.who.ty,.string x.q.who.id,.string x.q.act.ty,.string x.q.act.id,.string x.q.what.ty,.string x.q.what.id,.slice x.qa x.q.ctx.length x.qc],.slice x.ea x.e.length x.eca] w λr w'=>(∀v,evX x.es x.q x.e=.ok v->X5 w r w' v 0)/\(∀k,evX x.es x.q x.e=.bad k->r=.returned (.tuple #[.slice none 0 0,.iface 96 (.int .i64 k)])/\RowKit.Below w.heap.size w w'):=by
 have hmf:∀(fn:Fn) (first cap:Array Value) (w:World),(Instr.makeFunc fn first cap).run Tryz.prog w=.ok (.func fn first cap) w:=λ_ _ _ _=>rfl;have HE:=Ld (λW (hb:RowKit.Below w.heap.size w W)=>Ul x.hs x.es x.Ea x.ec W (h.later hb).ents h.ec);have HA:=Ld (λW (hb:RowKit.Below w.heap.size w W)=>Qj x.q x.qa x.qc W h.qz.1 h.qz.2.1 h.qz.2.2 h.qc.1 h.qc.2 h.qk (h.later hb).ctx);have HT:=Ld (λW (hb:RowKit.Below w.heap.size w W)=>Ux x.e x.ea x.eca W h.eca.1 h.eca.2 h.ek (h.later hb).ex);have HH:=Ld h;have b0:Blk (((w.alloc (.cells #[.string x.q.who.ty,.string x.q.who.id,.string x.q.act.ty,.string x.q.act.id,.string x.q.what.ty,.string x.q.what.id,.slice x.qa x.q.ctx.length x.qc] 39)).alloc (.cells #[.slice none 0 0] 22)).alloc (.cells #[.nilIface] 27)) w.heap.size 39 #[.string x.q.who.ty,.string x.q.who.id,.string x.q.act.ty,.string x.q.act.id,.string x.q.what.ty,.string x.q.what.id,.slice x.qa x.q.ctx.length x.qc]:=((Blk.new w _ _).alloc _).alloc _;have b1:Blk (((w.alloc (.cells #[.string x.q.who.ty,.string x.q.who.id,.string x.q.act.ty,.string x.q.act.id,.string x.q.what.ty,.string x.q.what.id,.slice x.qa x.q.ctx.length x.qc] 39)).alloc (.cells #[.slice none 0 0] 22)).alloc (.cells #[.nilIface] 27)) (w.heap.size+1) 22 #[.slice none 0 0]:=by
  have:=(Blk.new (w.alloc (.cells #[.string x.q.who.ty,.string x.q.who.id,.string x.q.act.ty,.string x.q.act.id,.string x.q.what.ty,.string x.q.what.id,.slice x.qa x.q.ctx.length x.qc] 39)) 22 #[.slice none 0 0]).alloc (.cells #[.nilIface] 27);rwa [World.size_alloc] at this
 have b2:Blk (((w.alloc (.cells #[.string x.q.who.ty,.string x.q.who.id,.string x.q.act.ty,.string x.q.act.id,.string x.q.what.ty,.string x.q.what.id,.slice x.qa x.q.ctx.length x.qc] 39)).alloc (.cells #[.slice none 0 0] 22)).alloc (.cells #[.nilIface] 27)) (w.heap.size+1+1) 27 #[.nilIface]:=by
  have:=Blk.new ((w.alloc (.cells #[.string x.q.who.ty,.string x.q.who.id,.string x.q.act.ty,.string x.q.act.id,.string x.q.what.ty,.string x.q.what.id,.slice x.qa x.q.ctx.length x.qc] 39)).alloc (.cells #[.slice none 0 0] 22)) 27 #[.nilIface];rwa [World.size_alloc,World.size_alloc] at this
 have hb0:RowKit.Below w.heap.size w (((w.alloc (.cells #[.string x.q.who.ty,.string x.q.who.id,.string x.q.act.ty,.string x.q.act.id,.string x.q.what.ty,.string x.q.what.id,.slice x.qa x.q.ctx.length x.qc] 39)).alloc (.cells #[.slice none 0 0] 22)).alloc (.cells #[.nilIface] 27)):=by (repeat (first | assumption | exact bR | apply bD | apply Za | refine bA ?_ _))
 have he0:Yh (Ym x.es)=.nilIface:=by rw [h0];rfl
 have he00:Yh (Vr x.q)=.nilIface:=by rw [h00];rfl
 have he1:Yh (Zo x.e)=.nilIface:=by rw [h1];rfl
 obtain ⟨hl200,hex⟩:=(Xd x.e).1 h1;have HNX:=Ld (λW (hb:RowKit.Below w.heap.size w W)=>(Zi2 x hf 200 x.e hl200 hl200 hex) 0 W.heap.size [] (W.alloc (.cells (x.cells 0) 99)) (by simp) ((h.later hb).evin h0 h00 hl200 ((RowKit.Below.refl _ W).alloc (nL _) _)) (Blk.new W _ _));have hvv:∀v,evX x.es x.q x.e=.ok v->v.length<=200/\v≠[]:=λv hv=>by
  have hv0:Zb v=0:=Zno h00 x.e.length x.e hex hv;have h2:=(Z0 v).1 hv0;obtain ⟨y,r,e,_⟩:=h2.2.ne;exact ⟨h2.1,by rw [e];simp⟩
 have HVL:=Ld (λv (hv:evX x.es x.q x.e=.ok v)=>(hvv v hv).1);have HNE:=Ld (λv (hv:evX x.es x.q x.e=.ok v)=>(hvv v hv).2);obtain ⟨q,hq⟩:∃q,q=evX x.es x.q x.e:=⟨_,rfl⟩;rw [<-hq] at HNX HVL HNE ⊢;clear hvv hq h0 h00 h1 hf hl200 hex;clear h;go_enter_defers Tryz.func19,Tryz.ntmps19
 go_wp2_with fail
 generalize (((w.alloc (.cells #[.string x.q.who.ty,.string x.q.who.id,.string x.q.act.ty,.string x.q.act.id,.string x.q.what.ty,.string x.q.what.id,.slice x.qa x.q.ctx.length x.qc] 39)).alloc (.cells #[.slice none 0 0] 22)).alloc (.cells #[.nilIface] 27))=w1 at b0 b1 b2 hb0 ⊢;have B01:=Ld b0;have B11:=Ld b1;have B21:=Ld b2;have BW1:=Ld hb0;clear b0 b1 b2 hb0;refine (HE.out w1 BW1.out).mono ?_;rintro r w2 ⟨hr,hb2⟩;rw [he0] at hr;subst hr;have B02:=Ld (B01.out.below hb2 B01.out.lt);have B12:=Ld (B11.out.below hb2 B11.out.lt);have B22:=Ld (B21.out.below hb2 B21.out.lt);have BW2:=Ld (BW1.out.trans (hb2.mono BW1.out.size));clear hb2;have q20:w2.cell? ⟨w.heap.size,0,none⟩=some (.string x.q.who.ty):=B02.out.cell 0;have q21:w2.cell? ⟨w.heap.size,1,none⟩=some (.string x.q.who.id):=B02.out.cell 1;have q22:w2.cell? ⟨w.heap.size,2,none⟩=some (.string x.q.act.ty):=B02.out.cell 2;have q23:w2.cell? ⟨w.heap.size,3,none⟩=some (.string x.q.act.id):=B02.out.cell 3;have q24:w2.cell? ⟨w.heap.size,4,none⟩=some (.string x.q.what.ty):=B02.out.cell 4;have q25:w2.cell? ⟨w.heap.size,5,none⟩=some (.string x.q.what.id):=B02.out.cell 5;have q26:w2.cell? ⟨w.heap.size,6,none⟩=some (.slice x.qa x.q.ctx.length x.qc):=B02.out.cell 6;go_wp2_with fail
 refine (HA.out w2 BW2.out).mono ?_;rintro r w3 ⟨hr,hb3⟩;rw [he00] at hr;subst hr;have B03:=Ld (B02.out.below hb3 B02.out.lt);have B13:=Ld (B12.out.below hb3 B12.out.lt);have B23:=Ld (B22.out.below hb3 B22.out.lt);have BW3:=Ld (BW2.out.trans (hb3.mono BW2.out.size));clear hb3;go_wp2_with fail
 refine (HT.out w3 BW3.out).mono ?_;rintro r w4 ⟨hr,hb4⟩;rw [he1] at hr;subst hr;have B04:=Ld (B03.out.below hb4 B03.out.lt);have B14:=Ld (B13.out.below hb4 B13.out.lt);have B24:=Ld (B23.out.below hb4 B23.out.lt);have BW4:=Ld (BW3.out.trans (hb4.mono BW3.out.size));clear hb4;have q40:w4.cell? ⟨w.heap.size,0,none⟩=some (.string x.q.who.ty):=B04.out.cell 0;have q41:w4.cell? ⟨w.heap.size,1,none⟩=some (.string x.q.who.id):=B04.out.cell 1;have q42:w4.cell? ⟨w.heap.size,2,none⟩=some (.string x.q.act.ty):=B04.out.cell 2;have q43:w4.cell? ⟨w.heap.size,3,none⟩=some (.string x.q.act.id):=B04.out.cell 3;have q44:w4.cell? ⟨w.heap.size,4,none⟩=some (.string x.q.what.ty):=B04.out.cell 4;have q45:w4.cell? ⟨w.heap.size,5,none⟩=some (.string x.q.what.id):=B04.out.cell 5;have q46:w4.cell? ⟨w.heap.size,6,none⟩=some (.slice x.qa x.q.ctx.length x.qc):=B04.out.cell 6;clear he0 he00 he1;go_wp2_with fail
 refine (HNX.out w4 BW4.out).mono ?_;rintro r w6 ⟨g1,g2,ho6⟩;have hz4:=BW4.out.size;have hB16:Blk w6 (w.heap.size+1) 22 #[.slice none 0 0]:=(B14.out.alloc _).only ho6 (by have:=B14.out.lt;simp;omega) (by have:=B14.out.lt;omega);have hB26:Blk w6 (w.heap.size+1+1) 27 #[.nilIface]:=(B24.out.alloc _).only ho6 (by have:=B24.out.lt;simp;omega) (by have:=B24.out.lt;omega);have hbw6:RowKit.Below w.heap.size w w6:=(BW4.out.alloc BW4.out.size _).trans (ho6.below (by simp;omega) (by omega));have c1:w6.cell? ⟨w.heap.size+1,0,none⟩=some (.slice none 0 0):=hB16.cell 0;have f1:w6.frozen? ⟨w.heap.size+1,0,none⟩=false:=hB16.frozen 0;have c2:w6.cell? ⟨w.heap.size+1+1,0,none⟩=some .nilIface:=hB26.cell 0;have f2:w6.frozen? ⟨w.heap.size+1+1,0,none⟩=false:=hB26.frozen 0;have BW6:=Ld hbw6;have HB16:=Ld hB16;have HB26:=Ld hB26;clear hB16 hB26 hbw6;cases q with
 | bad k=>
  have hr:=g2 k rfl;subst hr;clear g1 g2 ho6;go_wp2_with fail
  refine leaves_cons (f:=50) (args:=#[.pointer (some ⟨w.heap.size+1,0,none⟩),.pointer (some ⟨w.heap.size+1+1,0,none⟩)]) (by simp) (by simp [go_sem]) ?_;refine (Zyk ⟨w.heap.size+1,0,none⟩ ⟨w.heap.size+1+1,0,none⟩ _ _ k _ c1 f1 c2 f2 (by simp)).mono ?_;rintro e' u' w'' ⟨rfl,rfl,rfl⟩;have hcA:(w6.setCell ⟨w.heap.size+1,0,none⟩ (.slice none 0 0)).cell? ⟨w.heap.size+1,0,none⟩=some (.slice none 0 0):=World.cell?_setCell_same _ _ _ c1;have hcB:((w6.setCell ⟨w.heap.size+1,0,none⟩ (.slice none 0 0)).setCell ⟨w.heap.size+1+1,0,none⟩ (.iface 96 (.int .i64 k))).cell? ⟨w.heap.size+1+1,0,none⟩=some (.iface 96 (.int .i64 k)):=
   World.cell?_setCell_same _ _ _ ((World.cell?_of_block (w:=w6) (a:=⟨w.heap.size+1+1,0,none⟩) (RowKit.Below.heap_setCell _ _ _ _ (by simp))).trans c2)
  have hbF:RowKit.Below w.heap.size w ((w6.setCell ⟨w.heap.size+1,0,none⟩ (.slice none 0 0)).setCell ⟨w.heap.size+1+1,0,none⟩ (.iface 96 (.int .i64 k))):=(BW6.out.setCell (by simp) _).setCell (by show _<=w.heap.size+1+1;omega) _;simp [Leaves,settle,results,Tryz.results19,go_sem,hcA,hcB,hbF]
 | ok v=>
  obtain ⟨A,c,rfl,k1,k2,k3,-⟩:=g1 v rfl;have HCL:=Ld (Zon v A c w6 k3.sl (HVL.out v rfl));clear g1 g2 ho6;go_wp2_with fail
  refine HCL.out.mono ?_;rintro r w7 ⟨A7,c7,rfl,l1,l2,l3,hb7⟩;have d1:w7.cell? ⟨w.heap.size+1,0,none⟩=some (.slice none 0 0):=(HB16.out.below hb7 HB16.out.lt).cell 0;have e1:w7.frozen? ⟨w.heap.size+1,0,none⟩=false:=(HB16.out.below hb7 HB16.out.lt).frozen 0;have d2:w7.cell? ⟨w.heap.size+1+1,0,none⟩=some .nilIface:=(HB26.out.below hb7 HB26.out.lt).cell 0;have e2:w7.frozen? ⟨w.heap.size+1+1,0,none⟩=false:=(HB26.out.below hb7 HB26.out.lt).frozen 0;have BW7:=Ld (BW6.out.trans (hb7.mono BW6.out.size));have L3:=Ld l3;clear l3 hb7;go_wp2_with fail
  refine leaves_cons (f:=50) (args:=#[.pointer (some ⟨w.heap.size+1,0,none⟩),.pointer (some ⟨w.heap.size+1+1,0,none⟩)]) (by simp) (by simp [go_sem]) ?_;refine (Z1n ⟨w.heap.size+1,0,none⟩ ⟨w.heap.size+1+1,0,none⟩ _).mono ?_;rintro e' u' w'' ⟨rfl,rfl,rfl⟩;have hcA7:(w7.setCell ⟨w.heap.size+1,0,none⟩ (.slice A7 v.length c7)).cell? ⟨w.heap.size+1,0,none⟩=some (.slice A7 v.length c7):=World.cell?_setCell_same _ _ _ d1;have hcB7:((w7.setCell ⟨w.heap.size+1,0,none⟩ (.slice A7 v.length c7)).setCell ⟨w.heap.size+1+1,0,none⟩ .nilIface).cell? ⟨w.heap.size+1+1,0,none⟩=some .nilIface:=
   World.cell?_setCell_same _ _ _ ((World.cell?_of_block (w:=w7) (a:=⟨w.heap.size+1+1,0,none⟩) (RowKit.Below.heap_setCell _ _ _ _ (by simp))).trans d2)
  have hbF:RowKit.Below w.heap.size w ((w7.setCell ⟨w.heap.size+1,0,none⟩ (.slice A7 v.length c7)).setCell ⟨w.heap.size+1+1,0,none⟩ .nilIface):=(BW7.out.setCell (by simp) _).setCell (by show _<=w.heap.size+1+1;omega) _;have hz6:w.heap.size+1+1 < w6.heap.size:=HB26.out.lt;have hN:X5 w (.returned (.tuple #[.slice A7 v.length c7,Yh 0])) ((w7.setCell ⟨w.heap.size+1,0,none⟩ (.slice A7 v.length c7)).setCell ⟨w.heap.size+1+1,0,none⟩ .nilIface) v 0:=by
   obtain ⟨b,o,e1',e2',e3',e4'⟩:=L3.out (λb=>b < w6.heap.size) (λb h=>h) (HNE.out v rfl);have hc:∀i,((w7.setCell ⟨w.heap.size+1,0,none⟩ (.slice A7 v.length c7)).setCell ⟨w.heap.size+1+1,0,none⟩ .nilIface).cell? ⟨b,i,none⟩=w7.cell? ⟨b,i,none⟩:=λi=>
    World.cell?_of_block (w:=w7) (a:=⟨b,i,none⟩) ((RowKit.Below.heap_setCell _ _ _ _ (by show b≠w.heap.size+1+1;omega)).trans (RowKit.Below.heap_setCell _ _ _ _ (by show b≠w.heap.size+1;omega)))
   refine ⟨A7,c7,rfl,l1,l2,λ_=>⟨b,o,e1',by simpa [World.setCell] using e2',λi y hy=>?_⟩,hbF,λb' o' e=>?_⟩
   . obtain ⟨q0,q1,q2,q3⟩:=e4' i y hy;exact ⟨(hc _).trans q0,(hc _).trans q1,(hc _).trans q2,(hc _).trans q3⟩
   . rw [e] at e1';injection e1' with e1';injection e1' with e1' _;omega
  simp [Leaves,settle,results,Tryz.results19,go_sem,hcA7,hcB7];exact hN
end Go.Proofs.YtpheiojmcafolaaGreatDoor
namespace Go.Proofs.YtpheiojmcafolaaGreatDoor
def Xy {α:Type}(r:Rs α):Prop:=∀k,r=.bad k->k≠0
theorem Xj {α:Type}(v:α):Xy (.ok v):=λ_ h=>nomatch h
theorem Kp {α:Type}{k:Int}(h:k≠0):Xy (.bad k:Rs α):=λj e=>by injection e with e;rw [<-e];exact h
theorem Zcd {α:Type}{k:Int}{b:Rs α}(hb:Xy b):Xy (if k≠0 then .bad k else b):=by
 by_cases h:k≠0
 . rw [if_pos h];exact Kp h
 . rw [if_neg h];exact hb
theorem Y4 {α:Type}{c:Prop}[Decidable c]{a b:Rs α}(ha:Xy a)(hb:Xy b):Xy (if c then a else b):=by
 by_cases h:c
 . rw [if_pos h];exact ha
 . rw [if_neg h];exact hb
theorem Yu {α β:Type}{r:Rs α}{f:α->Rs β}(hr:Xy r)(hf:∀v,Xy (f v)):Xy (r.bind f):=by
 cases r with
 | ok v=>exact hf v
 | bad k=>exact Kp (hr k rfl)
theorem Kj {r:Rs (List Nd)}{op:Int}(h:Xy r):Xy (Vi r op):=Yu h λv=>Y4 (Xj _) (Kp (by decide))
theorem Z0n (op a b:Int):Xy (numR op a b):=Y4 (Y4 (Xj _) (Kp (by decide))) (Y4 (Y4 (Xj _) (Kp (by decide))) (Y4 (Y4 (Xj _) (Kp (by decide))) (Kp (by decide))))
theorem Z3p (p s:List UInt8):Xy (likeR p s):=Zcd (Zcd (Xj _))
theorem Zi4 (v:List Nd):Xy (Kq v):=Zcd (Y4 (Xj _) (Y4 (Xj _) (Kp (by decide))))
theorem Z5e (v:List Nd)(s:ByteArray):Xy (Js v s):=λ_ h=>Zjl h
theorem Zxv (es:List En)(v:List Nd):Xy (K8 es v):=λ_ h=>by rw [Zfo h];decide
theorem Z42 (vs:List (List Nd)):Xy (Qc vs):=λ_ h=>Zsr h
theorem Z36 (fs:List (ByteArray × List Nd)):Xy (Ky fs):=λ_ h=>Zsq h
theorem Zup (es:List En)(x:Nd)(v:List Nd):Xy (Yc es x v):=
 Y4 (Yu (Kj (Xj _)) λ_=>Xj _) (Y4 (Yu (Kj (Xj _)) λ_=>Yu (Z0n _ _ _) λ_=>Xj _)
  (Y4 (Yu (Kj (Xj _)) λ_=>Yu (Z3p _ _) λ_=>Xj _) (Y4 (Yu (Kj (Xj _)) λ_=>Xj _)
   (Yu (Zxv _ _) λr=>by
    cases r with
    | none=>exact Y4 (Xj _) (Kp (by decide))
    | some r=>
     refine Y4 ?_ (Z5e _ _);cases Js r x.s with
     | ok _=>exact Xj _
     | bad _=>exact Xj _))))
theorem Zlm (f:List (List Nd)->List (List Nd)->Bool)(a b:List Nd):Xy (Zan f a b):=by
 unfold Zan;repeat (first | exact Xj _ | exact Kp (by decide) | refine Zcd ?_ | refine Y4 ?_ ?_ | refine Yu (Zi4 _) λ_=>?_)
theorem Zw2 (a b:List Nd):Xy (J1 a b):=by
 unfold J1;repeat (first | exact Xj _ | exact Kp (by decide) | refine Zcd ?_ | refine Y4 ?_ ?_ | refine Yu (Zi4 _) λ_=>?_)
theorem Z5o (es:List En)(a b:List Nd):Xy (Zp2 es a b):=
 Yu (Kj (Xj _)) λ_=>Yu (Y4 (Zi4 _) (Xj _)) λ_=>Y4 (Xj _) (Kp (by decide))
theorem Zu5 (es:List En)(op:Int)(a b:List Nd):Xy (Yn es op a b):=
 Y4 (Xj _) (Y4 (Yu (Z5o _ _ _) λ_=>Xj _) (Y4 (Yu (Zw2 _ _) λ_=>Xj _) (Y4 (Yu (Zlm _ _ _) λ_=>Xj _) (Y4 (Yu (Zlm _ _ _) λ_=>Xj _)
  (Yu (Kj (Xj _)) λ_=>Yu (Kj (Xj _)) λ_=>Y4 (Xj _) (Y4 (Xj _) (Yu (Z0n _ _ _) λ_=>Xj _)))))))
theorem Zx8 (q:Rq)(s:List UInt8):Xy (Jf q s):=Y4 (Xj _) (Y4 (Xj _) (Y4 (Xj _) (Y4 (Xj _) (Kp (by decide)))))
theorem Zv0 {op:Int}{a b:Rs (List Nd)}(ha:Xy a)(hb:Xy b):Xy (Xm op a b):=Yu (Kj ha) λ_=>Y4 (Xj _) (Kj hb)
theorem Zvn {c a b:Rs (List Nd)}(hc:Xy c)(ha:Xy a)(hb:Xy b):Xy (Vm c a b):=Yu (Kj hc) λ_=>Y4 ha hb
theorem Zsc {α:Type}:∀{l:List (Rs α)},(∀r∈l,Xy r)->Xy (Uo l)
 | [],_=>Xj _
 | r :: l,h=>Yu (h r (by simp)) λ_=>Yu (Zsc λq hq=>h q (by simp [hq])) λ_=>Xj _
theorem Zxb (es:List En)(q:Rq):∀(N:Nat) (xs:List Nd),xs.length<=N->Ex (.one false) xs->Xy (evX es q xs)
 | 0,xs,hN,h=>by
  obtain ⟨y,r,e,_⟩:=Jb h;rw [e] at hN;simp at hN
 | N+1,xs,hN,h=>by
  cases h with
  | one n body _ hs h7 hb=>
   obtain ⟨ps,hc,hfl,hK⟩:=J8 hb;subst hfl;have hex:=Jq hK;have h7':¬n.op=7:=(by simpa using h7);rw [List.length_cons] at hN;have hin:∀p∈ps,¬n.op=6->Ex (.one false) p:=λp hp h6=>by
    have:=hex p hp;rwa [show (n.op==6)=false by simp [h6]] at this
   have ih:¬n.op=6->∀p∈ps,Xy (evX es q p):=λh6 p hp=>by
    have:=Uc hp;exact Zxb es q N p (by omega) (hin p hp h6)
   have hcase:(n.op=1\/n.op=2\/n.op=3\/n.op=4\/n.op=8)/\ps.length=0\/(n.op=5\/n.op=6)/\n.n=ps.length\/(n.op=9\/n.op=10\/n.op=21\/n.op=22\/n.op=23\/n.op=24)/\ps.length=1 \/
    (n.op=11\/n.op=12\/n.op=14\/n.op=15\/n.op=16\/n.op=17\/n.op=18\/n.op=19\/n.op=20\/n.op=25\/n.op=26\/n.op=27)/\ps.length=2\/n.op=13/\ps.length=3:=by
    unfold Zl at hc;unfold Zx at hs;by_cases a1:n.op=1\/n.op=2\/n.op=3\/n.op=4\/n.op=8
    . rw [if_pos a1] at hc;left;exact ⟨a1,by simpa using hc⟩
    rw [if_neg a1] at hc;by_cases a2:n.op=5\/n.op=6
    . rw [if_pos a2] at hc;rw [if_neg (by omega),if_pos a2] at hs;simp only [Bool.and_eq_true,decide_eq_true_eq] at hs;right;left;exact ⟨a2,by have:=hs.1.1;omega⟩
    rw [if_neg a2] at hc;by_cases a3:n.op=7\/n.op=9\/n.op=10\/n.op=21\/n.op=22\/n.op=23\/n.op=24
    . rw [if_pos a3] at hc;right;right;left;exact ⟨by omega,by simpa using hc⟩
    rw [if_neg a3] at hc;by_cases a4:n.op=11\/n.op=12\/n.op=14\/n.op=15\/n.op=16\/n.op=17\/n.op=18\/n.op=19\/n.op=20\/n.op=25\/n.op=26\/n.op=27
    . rw [if_pos a4] at hc;right;right;right;left;exact ⟨a4,by simpa using hc⟩
    rw [if_neg a4] at hc;by_cases a5:n.op=13
    . rw [if_pos a5] at hc;right;right;right;right;exact ⟨a5,by simpa using hc⟩
    . exfalso
      rw [if_neg (by omega),if_neg a2,if_neg (by omega),if_neg (by omega),if_neg (by omega)] at hs;simp only [Bool.and_eq_true,decide_eq_true_eq] at hs;have h1:=hs.1.1.1;unfold Zl at h1;rw [if_neg a1,if_neg a2,if_neg a3,if_neg a4,if_neg a5] at h1;omega
   rcases hcase with ⟨ho,hlen⟩ | ⟨ho,hn⟩ | ⟨ho,hlen⟩ | ⟨ho,hlen⟩ | ⟨ho,hlen⟩
   . obtain rfl:=List.eq_nil_of_length_eq_zero hlen;rw [List.flatten_nil];rcases (show (n.op=1\/n.op=2\/n.op=3\/n.op=4)\/n.op=8 by omega) with e | e
     . rw [Zce es q e];exact Xj _
     . rw [Zti es q e];exact Zx8 _ _
   . rw [V6 es q hex];unfold Kt;rw [if_neg (by omega),if_neg (by omega)];by_cases h6:n.op=6
     . rw [show (n.op==5)=false by simp [h6],show (n.op==6)=true by simp [h6]];refine Yu (Zsc λr hr=>?_) λ_=>Z36 _;obtain ⟨p,hp,rfl⟩:=List.mem_map.1 hr;have h1:=hex p hp;rw [show (n.op==6)=true by simp [h6]] at h1;obtain ⟨g1,g2⟩:=Zap h1;have:=Uc hp;exact Zxb es q N p.tail (by omega) g1
     . have h5:n.op=5:=(by omega);rw [show (n.op==5)=true by simp [h5],show (n.op==6)=false by simp [h6]];refine Yu (Zsc λr hr=>?_) λ_=>Z42 _;obtain ⟨p,hp,rfl⟩:=List.mem_map.1 hr;exact ih h6 p hp
   . match ps,hlen with
     | [a],_=>
      have h6:¬n.op=6:=(by omega);rw [show [a].flatten=a by simp,Zbn es q ho (hin a (by simp) h6)];exact Yu (ih h6 a (by simp)) λ_=>Zup _ _ _
   . match ps,hlen with
     | [a,b],_=>
      have h6:¬n.op=6:=(by omega);rw [show [a,b].flatten=a++b by simp];by_cases h11:n.op=11\/n.op=12
      . rw [Zm8 es q h11 (hin a (by simp) h6) (hin b (by simp) h6)];exact Zv0 (ih h6 a (by simp)) (ih h6 b (by simp))
      . rw [Zta es q (by omega) (hin a (by simp) h6) (hin b (by simp) h6)];exact Yu (ih h6 a (by simp)) λ_=>Yu (ih h6 b (by simp)) λ_=>Zu5 _ _ _ _
   . match ps,hlen with
     | [c,a,b],_=>
      have h6:¬n.op=6:=(by omega);rw [show [c,a,b].flatten=c++(a++b) by simp,Z0e es q ho (hin c (by simp) h6) (hin a (by simp) h6) (hin b (by simp) h6)];exact Zvn (ih h6 c (by simp)) (ih h6 a (by simp)) (ih h6 b (by simp))
end Go.Proofs.YtpheiojmcafolaaGreatDoor
namespace Go.Proofs.YtpheiojmcafolaaGreatDoor
open Go.RowKit Go.Sort
theorem Z4k {e:List Nd}(h0:Zo e=0):∀y∈e,0<=Zl y/\Zl y<=200:=λy hy=>by
 obtain ⟨j,hj⟩:=List.getElem?_of_mem hy;obtain ⟨s,hs,hsl⟩:=Ztt h0 hj;obtain ⟨_,_,q1,q2⟩:=Zll hs hj;have:=(Zca h0).1;omega
theorem Zqb (x:Evl)(w:World)(h:Zms x w) :
 Calls Tryz.prog 19 #[.slice x.Ea x.hs.length x.ec,.agg #[.string x.q.who.ty,.string x.q.who.id,.string x.q.act.ty,.string x.q.act.id,.string x.q.what.ty,.string x.q.what.id,.slice x.qa x.q.ctx.length x.qc],.slice x.ea x.e.length x.eca] w λr w'=>X5 w r w' (rsL (Jd x.es x.q x.e)) (rsE (Jd x.es x.q x.e)):=by
 unfold Jd;by_cases h1:Ym x.es=0
 case neg=>
  rw [if_pos h1];refine (Z1e x w h h1).mono ?_;rintro r w' ⟨rfl,hb⟩;exact X5.none hb
 rw [if_neg (by simp [h1])];by_cases h2:Vr x.q=0
 case neg=>
  rw [if_pos h2];refine (Z2n x w h h1 h2).mono ?_;rintro r w' ⟨rfl,hb⟩;exact X5.none hb
 rw [if_neg (by simp [h2])];by_cases h3:Zo x.e=0
 case neg=>
  rw [if_pos h3];refine (Z3d x w h h1 h2 h3).mono ?_;rintro r w' ⟨rfl,hb⟩;exact X5.none hb
 rw [if_neg (by simp [h3])];refine (Z3f x w h h1 h2 h3 (Z4k h3)).mono ?_;rintro r w' ⟨g1,g2⟩;have hne:∀k,evE x.es x.q x.e.length x.e=.bad k->k≠0:=λk hk=>Zxb x.es x.q _ x.e (nL _) ((Xd x.e).1 h3).2 k hk;cases hq:evE x.es x.q x.e.length x.e with
 | ok v=>exact g1 v hq
 | bad k=>
  obtain ⟨rfl,hb⟩:=g2 k hq;have:=X5.none (k:=k) hb;unfold Yh at this;rw [if_neg (hne k hq)] at this;exact this
end Go.Proofs.YtpheiojmcafolaaGreatDoor
