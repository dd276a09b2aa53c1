/-
 THE WALK: move.Policy, where nothing is wrong and the new name is nowhere.
-/
import Derived.Test.YtpheiojmcafolaaGreatDoorSz30
set_option maxRecDepth 100000
set_option maxHeartbeats 25600000
namespace Go.Proofs.YtpheiojmcafolaaGreatDoor
open Go.RowKit Go.Sort
def MpS (m:Mv)(y:PoM)(g:Nat)(w1 W:World):Prop:=W.cell? ⟨g,0,none⟩=some (.int .i64 m.what)/\W.cell? ⟨g,1,none⟩=some (.string m.fr)/\W.cell? ⟨g,2,none⟩=some (.string m.to_)/\W.cell? ⟨g+1,0,none⟩=some (.string y.p.name)/\W.cell? ⟨g+1,1,none⟩=some (.bool y.p.forbid)/\W.cell? ⟨g+1,2,none⟩=some (.int .i64 y.p.who.op)/\W.cell? ⟨g+1,3,none⟩=some (.string y.p.who.ty)/\W.cell? ⟨g+1,4,none⟩=some (.string y.p.who.uid.ty)/\W.cell? ⟨g+1,5,none⟩=some (.string y.p.who.uid.id)/\W.cell? ⟨g+1,6,none⟩=some (.int .i64 y.p.act.op)/\W.cell? ⟨g+1,7,none⟩=some (.string y.p.act.ty)/\W.cell? ⟨g+1,8,none⟩=some (.string y.p.act.uid.ty)/\W.cell? ⟨g+1,9,none⟩=some (.string y.p.act.uid.id)/\W.cell? ⟨g+1,10,none⟩=some (.int .i64 y.p.what.op)/\W.cell? ⟨g+1,11,none⟩=some (.string y.p.what.ty)/\W.cell? ⟨g+1,12,none⟩=some (.string y.p.what.uid.ty)/\W.cell? ⟨g+1,13,none⟩=some (.string y.p.what.uid.id)/\RowKit.Below w1.heap.size w1 W
theorem MpS.of {m:Mv}{y:PoM}{g:Nat}{w1 W:World}(h:Blk w1 g 56 #[.int .i64 m.what,.string m.fr,.string m.to_])(h2:Blk w1 (g+1) 47 #[.string y.p.name,.bool y.p.forbid,.int .i64 y.p.who.op,.string y.p.who.ty,.string y.p.who.uid.ty,.string y.p.who.uid.id,.int .i64 y.p.act.op,.string y.p.act.ty,.string y.p.act.uid.ty,.string y.p.act.uid.id,.int .i64 y.p.what.op,.string y.p.what.ty,.string y.p.what.uid.ty,.string y.p.what.uid.id,.slice y.A y.cs.length y.c])(hB:RowKit.Below w1.heap.size w1 W):MpS m y g w1 W:=by
 have h:=h.below hB h.lt;have k:=h2.below hB h2.lt;exact ⟨h.cell 0,h.cell 1,h.cell 2,k.cell 0,k.cell 1,k.cell 2,k.cell 3,k.cell 4,k.cell 5,k.cell 6,k.cell 7,k.cell 8,k.cell 9,k.cell 10,k.cell 11,k.cell 12,k.cell 13,hB⟩
def Zdr (g:Nat):World->Nat->List Value->World
 | W,_,[]=>W
 | W,i,v :: r=>Zdr g (W.setCell ⟨g,i,none⟩ v) (i+1) r
theorem Y8 {B g:Nat}{w:World}(hg:B<=g):∀{W:World} (i:Nat) (vs:List Value),RowKit.Below B w W->RowKit.Below B w (Zdr g W i vs)
 | _,_,[],h=>h
 | _,i,_ :: r,h=>Y8 hg (i+1) r (h.setCell hg _)
theorem Zk2 {g:Nat}{T:TypeId}:∀{W:World} (pre old vs:List Value),old.length=vs.length->Blk W g T (pre++old).toArray->Blk (Zdr g W pre.length vs) g T (pre++vs).toArray
 | _,_,[],[],_,h=>h
 | _,pre,o :: old,v :: vs,hl,h=>by
  have h1:=h.set pre.length v;have e:(pre++o :: old).toArray.setIfInBounds pre.length v=((pre ++ [v])++old).toArray:=by simp
  rw [e] at h1;have h2:=Zk2 (pre ++ [v]) old vs (by simpa using hl) h1;simpa [Zdr] using h2
theorem Qk {g:Nat}{T:TypeId}{W:World}(old vs:List Value)(hl:old.length=vs.length)(h:Blk W g T old.toArray):Blk (Zdr g W 0 vs) g T vs.toArray:=Zk2 [] old vs hl h
structure Jv (B base:Nat)(ds:List CdM)(v:Value)(w:World):Prop where
 own:w.ownsRow base 53 2 v ds.length (Zr CdM.cells ds)
 off:∀z∈ds,Xu (λb=>b < B\/Zhc v b) w w.heap.size z.A z.e
 le:∀z∈ds,z.e.length<=z.c/\z.c<=9223372036854775807/\Y0 z.e
theorem Jv.nil (B base:Nat)(w:World):Jv B base [] (.slice none 0 0) w:=⟨World.ownsRow_nil _ _ _ _,λz hz=>(by cases hz),λz hz=>(by cases hz)⟩
theorem Jv.later {B base:Nat}{ds:List CdM}{v:Value}{w w':World}(h:Jv B base ds v w)(hb:RowKit.Below w.heap.size w w'):Jv B base ds v w':=
 ⟨Vq h.own hb,λz hz=>(h.off z hz).keep (λ_ hp _=>hb.cell hp) hb.size,h.le⟩
theorem Jv.far {B base:Nat}{ds:List CdM}{v:Value}{w:World}(h:Jv B base ds v w)(hB:B<=base){p:Addr}(hp:p.block < B)(u:Value):Jv B base ds v (w.setCell p u):=
 ⟨Zpb h.own (λe=>by have:=(Yf h.own e).1;omega) u,λz hz=>(h.off z hz).keep (λq _ hn=>World.cell?_setCell_far _ _ _ _ (by rintro e;exact hn (.inl (by rw [<-e];exact hp)))) (by simp),h.le⟩
theorem Jv.more {B base:Nat}{ds:List CdM}{v v':Value}{w w':World}{z:CdM}(h:Jv B base ds v w)(hz:Xu (λb=>b < B\/Zhc v b) w w.heap.size z.A z.e)(hl:z.e.length<=z.c/\z.c<=9223372036854775807/\Y0 z.e)
 (ho:w'.ownsRow base 53 2 v' (ds.length+1) (Zr CdM.cells ds++CdM.cells z)) (hg:w.grownBy w' v.ownBlock) (hv:v'.ownBlock=v.ownBlock\/v'.ownBlock=some w.heap.size):Jv B base (ds ++ [z]) v' w':=by
 have key:∀x:CdM,Xu (λb=>b < B\/Zhc v b) w w.heap.size x.A x.e->Xu (λb=>b < B\/Zhc v' b) w' w'.heap.size x.A x.e:=λx hx hne=>by
  obtain ⟨b,o,e,h1,h2,h3⟩:=hx hne;have hk:∀i,w'.cell? ⟨b,i,none⟩=w.cell? ⟨b,i,none⟩:=λi=>World.cell?_of_block (w:=w) (a:=⟨b,i,none⟩) (hg.block b h1 (λe'=>h2 (.inr e'.symm)));refine ⟨b,o,e,Nat.lt_of_lt_of_le h1 hg.size,?_,λi y hy=>?_⟩
  . rintro (h4 | h4)
    . exact h2 (.inl h4)
    . unfold Zhc at h4;rcases hv with hv | hv
      . exact h2 (.inr (by unfold Zhc;rw [<-hv];exact h4))
      . rw [hv] at h4;injection h4 with h4;omega
  . obtain ⟨q0,q1,q2,q3⟩:=h3 i y hy;exact ⟨(hk _).trans q0,(hk _).trans q1,(hk _).trans q2,(hk _).trans q3⟩
 refine ⟨by rw [List.length_append,Y6,J9];exact ho,λx hx=>?_,λx hx=>?_⟩
 . rcases List.mem_append.1 hx with hx | hx
   . exact key x (h.off x hx)
   . rw [List.mem_singleton] at hx;subst hx;exact key x hz
 . rcases List.mem_append.1 hx with hx | hx
   . exact h.le x hx
   . rw [List.mem_singleton] at hx;subst hx;exact hl
theorem Zim {B base g:Nat}{ds:List CdM}{v:Value}(hB:B<=base)(hg:g < B):∀{W:World} (i:Nat) (vs:List Value),Jv B base ds v W->Jv B base ds v (Zdr g W i vs)
 | _,_,[],h=>h
 | _,i,_ :: r,h=>Zim hB hg (i+1) r (h.far hB hg _)
theorem Jv.cdf {B base:Nat}{ds:List CdM}{A:Option Addr}{n c:Nat}{w:World}(h:Jv B base ds (.slice A n c) w)(hB:B<=base):CdF (λb=>b < B) w w.heap.size A ds:=by
 obtain ⟨-,As,cs,e1,-,-,hsl⟩:=Y1 Zxc h.own;injection e1 with e1
 subst e1;refine ⟨λhne=>?_,λz hz=>(h.off z hz).mono λb _ hb=>.inl hb,h.le⟩;obtain ⟨b,o,e,h1,h2⟩:=hsl hne;refine ⟨b,o,e,h1,?_,h2⟩;have:=(Yf h.own (b:=b) (by rw [e];rfl)).1;omega
theorem Zyt {m:Mv}{cs ds:List CdM}{k:Nat}{x z:CdM}(h:ds.map CdM.cd=(cs.take k).map λx=>mvC m x.cd)(hx:cs[k]? = some x)(hz:z.cd=mvC m x.cd):(ds ++ [z]).map CdM.cd=(cs.take (k+1)).map λx=>mvC m x.cd:=by
 rw [List.take_add_one,hx,List.map_append,List.map_append,h];simp [hz]
theorem Zrr {s:ByteArray}(h:emp s=true):s.size<=140737488351232:=Xx (by unfold emp at h;rw [of_decide_eq_true h];rfl)
theorem Zsb {u:Ud}(h:V2 u=true):Km u:=by
 unfold V2 at h;rw [Bool.and_eq_true] at h;exact ⟨Zrr h.1,Zrr h.2⟩
theorem Z0f {u:Ud}(h:Qz u=true):Km u:=Zdh (by unfold Qz at h;simpa using h)
theorem Zsa {s:Sc}{b:Bool}(h:Vv s b=true):ScZ s:=by
 unfold Vv at h;split at h
 . rw [Bool.and_eq_true] at h;exact ⟨Zrr h.2,Zsb h.1⟩
 . split at h
   . rw [Bool.and_eq_true,Bool.and_eq_true] at h;exact ⟨Zrr h.2.2,Zsb h.2.1⟩
   . split at h
     . rw [Bool.and_eq_true] at h;exact ⟨Zrr h.2,Z0f h.1⟩
     . split at h
       . rw [Bool.and_eq_true] at h;exact ⟨Q3 (by simpa using h.1),Zsb h.2⟩
       . split at h
         . rw [Bool.and_eq_true] at h;exact ⟨Q3 (by simpa using h.1),Z0f h.2⟩
         . cases h
theorem Zns (m:Mv)(y:PoM)(w:World)(hz:MvZ m)(hy:Zbb w w.heap.size y)(hm:Zq m=0)(hp:Ys y.p=0)(hf:FrL m (Vo y.p)) :
 Calls Tryz.prog 41 #[.agg #[.int .i64 m.what,.string m.fr,.string m.to_],.agg #[.string y.p.name,.bool y.p.forbid,.int .i64 y.p.who.op,.string y.p.who.ty,.string y.p.who.uid.ty,.string y.p.who.uid.id,.int .i64 y.p.act.op,.string y.p.act.ty,.string y.p.act.uid.ty,.string y.p.act.uid.id,.int .i64 y.p.what.op,.string y.p.what.ty,.string y.p.what.uid.ty,.string y.p.what.uid.id,.slice y.A y.cs.length y.c]] w λr w'=>∃A c ds,r=.returned (.tuple #[.agg #[.string (mvO m y.p).name,.bool (mvO m y.p).forbid,.int .i64 (mvO m y.p).who.op,.string (mvO m y.p).who.ty,.string (mvO m y.p).who.uid.ty,.string (mvO m y.p).who.uid.id,.int .i64 (mvO m y.p).act.op,.string (mvO m y.p).act.ty,.string (mvO m y.p).act.uid.ty,.string (mvO m y.p).act.uid.id,.int .i64 (mvO m y.p).what.op,.string (mvO m y.p).what.ty,.string (mvO m y.p).what.uid.ty,.string (mvO m y.p).what.uid.id,.slice A ds.length c],.nilIface])/\Zah (λb=>b < w.heap.size) w' w'.heap.size ⟨mvO m y.p,ds,A,c⟩/\RowKit.Below w.heap.size w w':=by
 have hlc:y.cs.length<=4:=by
  have h1:=(Zdb.1 hp).2.2.2.2.1;rw [hy.same,List.length_map] at h1;exact h1
 have HC:=Ld (λW=>Vy m W hz);have HP:=Ld (λW (hW:RowKit.Below w.heap.size w W)=>Ja y.p y.cs y.A y.c W hy.same hy.z (hy.later hW).at_ (by omega));have HU1:=Ld (λW=>Zdm m y.p.who W);have HU2:=Ld (λW=>Zdm m y.p.act W);have HU3:=Ld (λW=>Zdm m y.p.what W);have hce:∀x∈y.cs,Zo x.e=0/\FrL m x.e:=λx hx=>by
  have h1:x.cd∈y.p.conds:=by rw [hy.same];exact List.mem_map.2 ⟨x,hx,rfl⟩
  have h2:=Zei (Zdb.1 hp).2.2.2.2.2 x.cd h1;refine ⟨?_,hf.cond x.cd h1⟩;unfold Xe at h2;split at h2
  . rename_i h3;exact absurd h2 h3
  . rename_i h3;exact Classical.not_not.1 h3
 have HA:=Ld (λW (hW:RowKit.Below w.heap.size w W) (x:CdM) (hx:x∈y.cs)=>show Calls Tryz.prog 70 #[.agg #[.int .i64 m.what,.string m.fr,.string m.to_,.bool false],.slice x.A x.e.length x.c] W λr w'=>Zcm W r w' (mvX m x.e) 0 by
  have h1:=(hy.later hW).at_.good x hx;obtain ⟨h2,h3⟩:=hce x hx;have hex:=(Xd x.e).1 h2;have:=Zfm m false x.e (Zc0 hm (λh=>by cases h) x.e.length x.e (.inl ⟨rfl,_,hex.2⟩) hex.1 (nL _)) x.A x.c W h1.le h1.max h1.sl;have h4:Zt m false x.e.length x.e=some (mvX m x.e):=Zpk hm h2 h3;rw [h4] at this;exact this)
 have HXN:=Ld (λ(x:CdM) (hx:x∈y.cs)=>show Y0 (mvX m x.e)/\NdI (mvX m x.e) from ⟨Zeo (Zbi hm (hce x hx).1 (hce x hx).2),Zjc (Zbi hm (hce x hx).1 (hce x hx).2) λz hz' h2=>hy.ni x hx z (Zcu m false _ x.e _ (Zpk hm (hce x hx).1 (hce x hx).2) z hz' (.inl h2))⟩);unfold Zcm at HA;rw [hm,Zv] at HC;rw [hp,Zv] at HP;rw [Zv] at HA;have HYW:=Ld hy;have HPZ:=Ld (show PoZ (mvO m y.p) from by
  obtain ⟨h1,h2,h3,h4,_⟩:=Zdb.1 (Zfx hm hp hf);exact ⟨hy.z.1,Zsa h2,Zsa h3,Zsa h4⟩)
 obtain ⟨iu,hiu,hu0,hu1,hu2⟩:=info_parts Z2g;have HSM:=Ld (show (mvO m y.p).conds=y.cs.map λx=>mvC m x.cd by show y.p.conds.map (mvC m)=_;rw [hy.same,List.map_map];rfl);have hc2:y.cs.length<=y.c/\y.c<=9223372036854775807:=⟨hy.le,hy.max⟩;obtain ⟨q1,hq1⟩:∃q1,mvS m y.p.who=q1:=⟨_,rfl⟩;obtain ⟨q2,hq2⟩:∃q2,mvS m y.p.act=q2:=⟨_,rfl⟩;obtain ⟨q3,hq3⟩:∃q3,mvS m y.p.what=q3:=⟨_,rfl⟩;have HMO:=Ld (show mvO m y.p=⟨y.p.name,y.p.forbid,q1,q2,q3,y.p.conds.map (mvC m)⟩ by unfold mvO;rw [hq1,hq2,hq3]);rw [hq1] at HU1;rw [hq2] at HU2;rw [hq3] at HU3;clear hq1 hq2 hq3 hce hm hp hf hy;obtain ⟨w0,hw0⟩:∃w0,w0=((w.alloc (.cells #[.int .i64 m.what,.string m.fr,.string m.to_] 56)).alloc (.cells #[.string y.p.name,.bool y.p.forbid,.int .i64 y.p.who.op,.string y.p.who.ty,.string y.p.who.uid.ty,.string y.p.who.uid.id,.int .i64 y.p.act.op,.string y.p.act.ty,.string y.p.act.uid.ty,.string y.p.act.uid.id,.int .i64 y.p.what.op,.string y.p.what.ty,.string y.p.what.uid.ty,.string y.p.what.uid.id,.slice y.A y.cs.length y.c] 47)).alloc (.cells #[.string ⟨#[]⟩,.bool false,.int .i64 0,.string ⟨#[]⟩,.string ⟨#[]⟩,.string ⟨#[]⟩,.int .i64 0,.string ⟨#[]⟩,.string ⟨#[]⟩,.string ⟨#[]⟩,.int .i64 0,.string ⟨#[]⟩,.string ⟨#[]⟩,.string ⟨#[]⟩,.slice none 0 0] 47):=⟨_,rfl⟩;have hb0:RowKit.Below w.heap.size w w0:=by rw [hw0];(repeat (first | assumption | exact bR | apply bD | apply Za | refine bA ?_ _))
 have B0:Hid (Blk w0 w.heap.size 56 #[.int .i64 m.what,.string m.fr,.string m.to_]):=by
  show Blk _ _ _ _;rw [hw0];exact ((Blk.new w 56 #[.int .i64 m.what,.string m.fr,.string m.to_]).alloc _).alloc _
 have D0:Hid (Blk w0 (w.heap.size+1) 47 #[.string y.p.name,.bool y.p.forbid,.int .i64 y.p.who.op,.string y.p.who.ty,.string y.p.who.uid.ty,.string y.p.who.uid.id,.int .i64 y.p.act.op,.string y.p.act.ty,.string y.p.act.uid.ty,.string y.p.act.uid.id,.int .i64 y.p.what.op,.string y.p.what.ty,.string y.p.what.uid.ty,.string y.p.what.uid.id,.slice y.A y.cs.length y.c]):=by
  show Blk _ _ _ _;rw [hw0];have:=(Blk.new (w.alloc (.cells #[.int .i64 m.what,.string m.fr,.string m.to_] 56)) 47 #[.string y.p.name,.bool y.p.forbid,.int .i64 y.p.who.op,.string y.p.who.ty,.string y.p.who.uid.ty,.string y.p.who.uid.id,.int .i64 y.p.act.op,.string y.p.act.ty,.string y.p.act.uid.ty,.string y.p.act.uid.id,.int .i64 y.p.what.op,.string y.p.what.ty,.string y.p.what.uid.ty,.string y.p.what.uid.id,.slice y.A y.cs.length y.c]);rw [World.size_alloc] at this;exact this.alloc _
 have R0:Hid (Blk w0 (w.heap.size+1+1) 47 #[.string ⟨#[]⟩,.bool false,.int .i64 0,.string ⟨#[]⟩,.string ⟨#[]⟩,.string ⟨#[]⟩,.int .i64 0,.string ⟨#[]⟩,.string ⟨#[]⟩,.string ⟨#[]⟩,.int .i64 0,.string ⟨#[]⟩,.string ⟨#[]⟩,.string ⟨#[]⟩,.slice none 0 0]):=by
  show Blk _ _ _ _;rw [hw0];have:=(Blk.new ((w.alloc (.cells #[.int .i64 m.what,.string m.fr,.string m.to_] 56)).alloc (.cells #[.string y.p.name,.bool y.p.forbid,.int .i64 y.p.who.op,.string y.p.who.ty,.string y.p.who.uid.ty,.string y.p.who.uid.id,.int .i64 y.p.act.op,.string y.p.act.ty,.string y.p.act.uid.ty,.string y.p.act.uid.id,.int .i64 y.p.what.op,.string y.p.what.ty,.string y.p.what.uid.ty,.string y.p.what.uid.id,.slice y.A y.cs.length y.c] 47)) 47 #[.string ⟨#[]⟩,.bool false,.int .i64 0,.string ⟨#[]⟩,.string ⟨#[]⟩,.string ⟨#[]⟩,.int .i64 0,.string ⟨#[]⟩,.string ⟨#[]⟩,.string ⟨#[]⟩,.int .i64 0,.string ⟨#[]⟩,.string ⟨#[]⟩,.string ⟨#[]⟩,.slice none 0 0]);rw [World.size_alloc,World.size_alloc] at this;exact this
 have HB0:=Ld hb0;have HW0:=Ld hw0;clear hb0 hw0;go_enter Tryz.func41,Tryz.ntmps41
 go_wp2_with fail
 rw [<-HW0.out];refine (HC.out _).mono ?_;rintro r w1 ⟨rfl,hb1⟩;have HB1:=Ld (HB0.out.trans (hb1.mono HB0.out.size));have B1:=Ld (B0.out.below hb1 B0.out.lt);have D1:=Ld (D0.out.below hb1 D0.out.lt);have R1:=Ld (R0.out.below hb1 R0.out.lt);clear hb1 B0 D0 R0 HB0 HW0 HC;have dc:=D1.out.cell;have dl:=D1.out.lt;go_wp2_with fail
 refine (HP.out _ HB1.out).mono ?_;rintro r w3 ⟨rfl,hb3⟩;have HB3:=Ld (HB1.out.trans (hb3.mono HB1.out.size));have B3:=Ld (B1.out.below hb3 B1.out.lt);have D3:=Ld (D1.out.below hb3 D1.out.lt);have R3:=Ld (R1.out.below hb3 R1.out.lt);clear hb3 B1 D1 R1 HB1 HP dc dl;go_wp2_with fail
 have HS0:Hid (MpS m y w.heap.size w3 w3.drew):=Ld (MpS.of B3.out D3.out ((RowKit.Below.refl _ _).drew));go_cut [8] from 25 to 41 (λpv wx=>∃bx,pv=.pointer (some ⟨bx,0,none⟩)/\w3.heap.size<=bx/\Hid (Blk wx bx 47 #[.string y.p.name,.bool y.p.forbid,.int .i64 q1.op,.string q1.ty,.string q1.uid.ty,.string q1.uid.id,.int .i64 q2.op,.string q2.ty,.string q2.uid.ty,.string q2.uid.id,.int .i64 q3.op,.string q3.ty,.string q3.uid.ty,.string q3.uid.id,.slice none 0 0])/\Hid (RowKit.Below w3.heap.size w3 wx))
 case first=>
  refine Zb2 (S:=MpS m y w.heap.size w3) (Tr.reads [0,1,2,3,4,5,6,8,9,10,12,13,14] (.two 7 17 (.two 11 17 (.two 15 17 (.read 16 (.one 17 (.one 18 .nil))) (.one 15 (.read 16 (.one 18 .nil)))) (.one 11 (.one 15 (.read 16 (.one 18 .nil))))) (.one 7 (.one 11 (.one 15 (.read 16 (.one 18 .nil))))))) (by kernel_rfl) (by kernel_rfl) (λ_ _ _ _ _ h=>h) HS0.out ?_;clear HB3;have HB3:Hid (RowKit.Below w3.heap.size w3 w3.drew):=Ld ((RowKit.Below.refl _ _).drew);simp only [Tr.reads,Tr.at_,Zez,List.getElem?_cons_zero,List.getElem?_cons_succ];(repeat (refine Kl (v:=?_) (by rfl) ?_ ?_;rotate_left;(focus (intro W hW;obtain ⟨s0,s1,s2,s3,s4,s5,s6,s7,s8,s9,s10,s11,s12,s13,s14,s15,s16,s17⟩:=hW;go_simp;try with_reducible rfl));simp only [Act.put,pA,pB,pC]))
  refine Znp (λK hK=>?_) (λK hK=>?_)
  . go_simp
    refine (HU1.out _).mono ?_;rintro r w4 ⟨rfl,hb⟩;have HB4:=Ld (HB3.out.trans (hb.mono HB3.out.size));refine hK _ _ (MpS.of B3.out D3.out HB4.out) ?_;clear hK K hb;refine Znp (λK hK=>?_) (λK hK=>?_)
    . go_simp
      refine (HU2.out _).mono ?_;rintro r w5 ⟨rfl,hb⟩;have HB5:=Ld (HB4.out.trans (hb.mono HB4.out.size));refine hK _ _ (MpS.of B3.out D3.out HB5.out) ?_;clear hK K hb;refine Znp (λK hK=>?_) (λK hK=>?_)
      . go_simp
        refine (HU3.out _).mono ?_;rintro r w6 ⟨rfl,hb⟩;have HB6:=Ld (HB5.out.trans (hb.mono HB5.out.size));refine hK _ _ (MpS.of B3.out D3.out HB6.out) ?_;clear hK K hb;(repeat (refine Kl (v:=?_) (by rfl) ?_ ?_;rotate_left;(focus (intro W hW;obtain ⟨s0,s1,s2,s3,s4,s5,s6,s7,s8,s9,s10,s11,s12,s13,s14,s15,s16,s17⟩:=hW;go_simp;try with_reducible rfl));simp only [Act.put,pA,pB,pC]))
        refine V3 (λK hK=>?_);go_simp
        refine hK _ _ (MpS.of B3.out D3.out (HB6.out.alloc HB6.out.size _)) ?_;clear hK K;have HB9:=Ld (HB6.out.alloc HB6.out.size (.cells #[.string ⟨#[]⟩,.bool false,.int .i64 0,.string ⟨#[]⟩,.string ⟨#[]⟩,.string ⟨#[]⟩,.int .i64 0,.string ⟨#[]⟩,.string ⟨#[]⟩,.string ⟨#[]⟩,.int .i64 0,.string ⟨#[]⟩,.string ⟨#[]⟩,.string ⟨#[]⟩,.slice none 0 0] 47));have Z9:Hid (Blk (w6.alloc (.cells #[.string ⟨#[]⟩,.bool false,.int .i64 0,.string ⟨#[]⟩,.string ⟨#[]⟩,.string ⟨#[]⟩,.int .i64 0,.string ⟨#[]⟩,.string ⟨#[]⟩,.string ⟨#[]⟩,.int .i64 0,.string ⟨#[]⟩,.string ⟨#[]⟩,.string ⟨#[]⟩,.slice none 0 0] 47)) w6.heap.size 47 #[.string ⟨#[]⟩,.bool false,.int .i64 0,.string ⟨#[]⟩,.string ⟨#[]⟩,.string ⟨#[]⟩,.int .i64 0,.string ⟨#[]⟩,.string ⟨#[]⟩,.string ⟨#[]⟩,.int .i64 0,.string ⟨#[]⟩,.string ⟨#[]⟩,.string ⟨#[]⟩,.slice none 0 0]):=Ld (Blk.new w6 47 #[.string ⟨#[]⟩,.bool false,.int .i64 0,.string ⟨#[]⟩,.string ⟨#[]⟩,.string ⟨#[]⟩,.int .i64 0,.string ⟨#[]⟩,.string ⟨#[]⟩,.string ⟨#[]⟩,.int .i64 0,.string ⟨#[]⟩,.string ⟨#[]⟩,.string ⟨#[]⟩,.slice none 0 0]);have hle:w3.heap.size<=w6.heap.size:=HB6.out.size;generalize hwa:w6.alloc (.cells #[.string ⟨#[]⟩,.bool false,.int .i64 0,.string ⟨#[]⟩,.string ⟨#[]⟩,.string ⟨#[]⟩,.int .i64 0,.string ⟨#[]⟩,.string ⟨#[]⟩,.string ⟨#[]⟩,.int .i64 0,.string ⟨#[]⟩,.string ⟨#[]⟩,.string ⟨#[]⟩,.slice none 0 0] 47)=w9 at HB9 Z9 ⊢;clear hwa;have zc:=Z9.out.cell;have zf:=Z9.out.frozen;have zl:=Z9.out.lt;refine V3 (λK hK=>?_);go_simp
        have hfin:=HB9.out;refine hK _ _ ?_ ?_
        . exact MpS.of B3.out D3.out (Y8 hle 0 [.string y.p.name,.bool y.p.forbid,.int .i64 q1.op,.string q1.ty,.string q1.uid.ty,.string q1.uid.id,.int .i64 q2.op,.string q2.ty,.string q2.uid.ty,.string q2.uid.id,.int .i64 q3.op,.string q3.ty,.string q3.uid.ty,.string q3.uid.id,.slice none 0 0] hfin)
        clear hK K zc zf zl;generalize hwf:World.setCell (World.setCell _ _ _) _ _=wf;have Y9:Hid (RowKit.Below w3.heap.size w3 wf):=by
         show RowKit.Below _ _ _;rw [<-hwf];exact Y8 hle 0 [.string y.p.name,.bool y.p.forbid,.int .i64 q1.op,.string q1.ty,.string q1.uid.ty,.string q1.uid.id,.int .i64 q2.op,.string q2.ty,.string q2.uid.ty,.string q2.uid.id,.int .i64 q3.op,.string q3.ty,.string q3.uid.ty,.string q3.uid.id,.slice none 0 0] hfin
        have X9:Hid (Blk wf w6.heap.size 47 #[.string y.p.name,.bool y.p.forbid,.int .i64 q1.op,.string q1.ty,.string q1.uid.ty,.string q1.uid.id,.int .i64 q2.op,.string q2.ty,.string q2.uid.ty,.string q2.uid.id,.int .i64 q3.op,.string q3.ty,.string q3.uid.ty,.string q3.uid.id,.slice none 0 0]):=by
         show Blk _ _ _ _;rw [<-hwf];exact Qk [.string ⟨#[]⟩,.bool false,.int .i64 0,.string ⟨#[]⟩,.string ⟨#[]⟩,.string ⟨#[]⟩,.int .i64 0,.string ⟨#[]⟩,.string ⟨#[]⟩,.string ⟨#[]⟩,.int .i64 0,.string ⟨#[]⟩,.string ⟨#[]⟩,.string ⟨#[]⟩,.slice none 0 0] [.string y.p.name,.bool y.p.forbid,.int .i64 q1.op,.string q1.ty,.string q1.uid.ty,.string q1.uid.id,.int .i64 q2.op,.string q2.ty,.string q2.uid.ty,.string q2.uid.id,.int .i64 q3.op,.string q3.ty,.string q3.uid.ty,.string q3.uid.id,.slice none 0 0] rfl Z9.out
        clear hwf hfin;refine Zha ?_;go_wp2_with fail
        go_meet
        exact ⟨w6.heap.size,rfl,hle,X9,Y9⟩
      . go_simp
        refine hK _ _ (MpS.of B3.out D3.out (HB5.out.alloc HB5.out.size _)) ?_;clear hK K;have HB9:=Ld (HB5.out.alloc HB5.out.size (.cells #[.string ⟨#[]⟩,.bool false,.int .i64 0,.string ⟨#[]⟩,.string ⟨#[]⟩,.string ⟨#[]⟩,.int .i64 0,.string ⟨#[]⟩,.string ⟨#[]⟩,.string ⟨#[]⟩,.int .i64 0,.string ⟨#[]⟩,.string ⟨#[]⟩,.string ⟨#[]⟩,.slice none 0 0] 47));have Z9:Hid (Blk (w5.alloc (.cells #[.string ⟨#[]⟩,.bool false,.int .i64 0,.string ⟨#[]⟩,.string ⟨#[]⟩,.string ⟨#[]⟩,.int .i64 0,.string ⟨#[]⟩,.string ⟨#[]⟩,.string ⟨#[]⟩,.int .i64 0,.string ⟨#[]⟩,.string ⟨#[]⟩,.string ⟨#[]⟩,.slice none 0 0] 47)) w5.heap.size 47 #[.string ⟨#[]⟩,.bool false,.int .i64 0,.string ⟨#[]⟩,.string ⟨#[]⟩,.string ⟨#[]⟩,.int .i64 0,.string ⟨#[]⟩,.string ⟨#[]⟩,.string ⟨#[]⟩,.int .i64 0,.string ⟨#[]⟩,.string ⟨#[]⟩,.string ⟨#[]⟩,.slice none 0 0]):=Ld (Blk.new w5 47 #[.string ⟨#[]⟩,.bool false,.int .i64 0,.string ⟨#[]⟩,.string ⟨#[]⟩,.string ⟨#[]⟩,.int .i64 0,.string ⟨#[]⟩,.string ⟨#[]⟩,.string ⟨#[]⟩,.int .i64 0,.string ⟨#[]⟩,.string ⟨#[]⟩,.string ⟨#[]⟩,.slice none 0 0]);have hle:w3.heap.size<=w5.heap.size:=HB5.out.size;generalize hwa:w5.alloc (.cells #[.string ⟨#[]⟩,.bool false,.int .i64 0,.string ⟨#[]⟩,.string ⟨#[]⟩,.string ⟨#[]⟩,.int .i64 0,.string ⟨#[]⟩,.string ⟨#[]⟩,.string ⟨#[]⟩,.int .i64 0,.string ⟨#[]⟩,.string ⟨#[]⟩,.string ⟨#[]⟩,.slice none 0 0] 47)=w9 at HB9 Z9 ⊢;clear hwa;refine V3 (λK hK=>?_);go_simp
        refine (HU3.out _).mono ?_;rintro r w6 ⟨rfl,hb⟩;have HB6:=Ld (HB9.out.trans (hb.mono HB9.out.size));have Z6:=Ld (Z9.out.below hb Z9.out.lt);refine hK _ _ (MpS.of B3.out D3.out HB6.out) ?_;clear hK K hb;(repeat (refine Kl (v:=?_) (by rfl) ?_ ?_;rotate_left;(focus (intro W hW;obtain ⟨s0,s1,s2,s3,s4,s5,s6,s7,s8,s9,s10,s11,s12,s13,s14,s15,s16,s17⟩:=hW;go_simp;try with_reducible rfl));simp only [Act.put,pA,pB,pC]))
        have zc:=Z6.out.cell;have zf:=Z6.out.frozen;have zl:=Z6.out.lt;refine V3 (λK hK=>?_);go_simp
        have hfin:=HB6.out;refine hK _ _ ?_ ?_
        . exact MpS.of B3.out D3.out (Y8 hle 0 [.string y.p.name,.bool y.p.forbid,.int .i64 q1.op,.string q1.ty,.string q1.uid.ty,.string q1.uid.id,.int .i64 q2.op,.string q2.ty,.string q2.uid.ty,.string q2.uid.id,.int .i64 q3.op,.string q3.ty,.string q3.uid.ty,.string q3.uid.id,.slice none 0 0] hfin)
        clear hK K zc zf zl;generalize hwf:World.setCell (World.setCell _ _ _) _ _=wf;have Y9:Hid (RowKit.Below w3.heap.size w3 wf):=by
         show RowKit.Below _ _ _;rw [<-hwf];exact Y8 hle 0 [.string y.p.name,.bool y.p.forbid,.int .i64 q1.op,.string q1.ty,.string q1.uid.ty,.string q1.uid.id,.int .i64 q2.op,.string q2.ty,.string q2.uid.ty,.string q2.uid.id,.int .i64 q3.op,.string q3.ty,.string q3.uid.ty,.string q3.uid.id,.slice none 0 0] hfin
        have X9:Hid (Blk wf w5.heap.size 47 #[.string y.p.name,.bool y.p.forbid,.int .i64 q1.op,.string q1.ty,.string q1.uid.ty,.string q1.uid.id,.int .i64 q2.op,.string q2.ty,.string q2.uid.ty,.string q2.uid.id,.int .i64 q3.op,.string q3.ty,.string q3.uid.ty,.string q3.uid.id,.slice none 0 0]):=by
         show Blk _ _ _ _;rw [<-hwf];exact Qk [.string ⟨#[]⟩,.bool false,.int .i64 0,.string ⟨#[]⟩,.string ⟨#[]⟩,.string ⟨#[]⟩,.int .i64 0,.string ⟨#[]⟩,.string ⟨#[]⟩,.string ⟨#[]⟩,.int .i64 0,.string ⟨#[]⟩,.string ⟨#[]⟩,.string ⟨#[]⟩,.slice none 0 0] [.string y.p.name,.bool y.p.forbid,.int .i64 q1.op,.string q1.ty,.string q1.uid.ty,.string q1.uid.id,.int .i64 q2.op,.string q2.ty,.string q2.uid.ty,.string q2.uid.id,.int .i64 q3.op,.string q3.ty,.string q3.uid.ty,.string q3.uid.id,.slice none 0 0] rfl Z6.out
        clear hwf hfin;refine Zha ?_;go_wp2_with fail
        go_meet
        exact ⟨w5.heap.size,rfl,hle,X9,Y9⟩
    . go_simp
      refine hK _ _ (MpS.of B3.out D3.out (HB4.out.alloc HB4.out.size _)) ?_;clear hK K;have HB9:=Ld (HB4.out.alloc HB4.out.size (.cells #[.string ⟨#[]⟩,.bool false,.int .i64 0,.string ⟨#[]⟩,.string ⟨#[]⟩,.string ⟨#[]⟩,.int .i64 0,.string ⟨#[]⟩,.string ⟨#[]⟩,.string ⟨#[]⟩,.int .i64 0,.string ⟨#[]⟩,.string ⟨#[]⟩,.string ⟨#[]⟩,.slice none 0 0] 47));have Z9:Hid (Blk (w4.alloc (.cells #[.string ⟨#[]⟩,.bool false,.int .i64 0,.string ⟨#[]⟩,.string ⟨#[]⟩,.string ⟨#[]⟩,.int .i64 0,.string ⟨#[]⟩,.string ⟨#[]⟩,.string ⟨#[]⟩,.int .i64 0,.string ⟨#[]⟩,.string ⟨#[]⟩,.string ⟨#[]⟩,.slice none 0 0] 47)) w4.heap.size 47 #[.string ⟨#[]⟩,.bool false,.int .i64 0,.string ⟨#[]⟩,.string ⟨#[]⟩,.string ⟨#[]⟩,.int .i64 0,.string ⟨#[]⟩,.string ⟨#[]⟩,.string ⟨#[]⟩,.int .i64 0,.string ⟨#[]⟩,.string ⟨#[]⟩,.string ⟨#[]⟩,.slice none 0 0]):=Ld (Blk.new w4 47 #[.string ⟨#[]⟩,.bool false,.int .i64 0,.string ⟨#[]⟩,.string ⟨#[]⟩,.string ⟨#[]⟩,.int .i64 0,.string ⟨#[]⟩,.string ⟨#[]⟩,.string ⟨#[]⟩,.int .i64 0,.string ⟨#[]⟩,.string ⟨#[]⟩,.string ⟨#[]⟩,.slice none 0 0]);have hle:w3.heap.size<=w4.heap.size:=HB4.out.size;generalize hwa:w4.alloc (.cells #[.string ⟨#[]⟩,.bool false,.int .i64 0,.string ⟨#[]⟩,.string ⟨#[]⟩,.string ⟨#[]⟩,.int .i64 0,.string ⟨#[]⟩,.string ⟨#[]⟩,.string ⟨#[]⟩,.int .i64 0,.string ⟨#[]⟩,.string ⟨#[]⟩,.string ⟨#[]⟩,.slice none 0 0] 47)=w9 at HB9 Z9 ⊢;clear hwa;refine V3 (λK hK=>?_);go_simp
      refine (HU2.out _).mono ?_;rintro r w5 ⟨rfl,hb⟩;have HB5:=Ld (HB9.out.trans (hb.mono HB9.out.size));have Z5:=Ld (Z9.out.below hb Z9.out.lt);refine hK _ _ (MpS.of B3.out D3.out HB5.out) ?_;clear hK K hb;refine V3 (λK hK=>?_);go_simp
      refine (HU3.out _).mono ?_;rintro r w6 ⟨rfl,hb⟩;have HB6:=Ld (HB5.out.trans (hb.mono HB5.out.size));have Z6:=Ld (Z5.out.below hb Z5.out.lt);refine hK _ _ (MpS.of B3.out D3.out HB6.out) ?_;clear hK K hb;(repeat (refine Kl (v:=?_) (by rfl) ?_ ?_;rotate_left;(focus (intro W hW;obtain ⟨s0,s1,s2,s3,s4,s5,s6,s7,s8,s9,s10,s11,s12,s13,s14,s15,s16,s17⟩:=hW;go_simp;try with_reducible rfl));simp only [Act.put,pA,pB,pC]))
      have zc:=Z6.out.cell;have zf:=Z6.out.frozen;have zl:=Z6.out.lt;refine V3 (λK hK=>?_);go_simp
      have hfin:=HB6.out;refine hK _ _ ?_ ?_
      . exact MpS.of B3.out D3.out (Y8 hle 0 [.string y.p.name,.bool y.p.forbid,.int .i64 q1.op,.string q1.ty,.string q1.uid.ty,.string q1.uid.id,.int .i64 q2.op,.string q2.ty,.string q2.uid.ty,.string q2.uid.id,.int .i64 q3.op,.string q3.ty,.string q3.uid.ty,.string q3.uid.id,.slice none 0 0] hfin)
      clear hK K zc zf zl;generalize hwf:World.setCell (World.setCell _ _ _) _ _=wf;have Y9:Hid (RowKit.Below w3.heap.size w3 wf):=by
       show RowKit.Below _ _ _;rw [<-hwf];exact Y8 hle 0 [.string y.p.name,.bool y.p.forbid,.int .i64 q1.op,.string q1.ty,.string q1.uid.ty,.string q1.uid.id,.int .i64 q2.op,.string q2.ty,.string q2.uid.ty,.string q2.uid.id,.int .i64 q3.op,.string q3.ty,.string q3.uid.ty,.string q3.uid.id,.slice none 0 0] hfin
      have X9:Hid (Blk wf w4.heap.size 47 #[.string y.p.name,.bool y.p.forbid,.int .i64 q1.op,.string q1.ty,.string q1.uid.ty,.string q1.uid.id,.int .i64 q2.op,.string q2.ty,.string q2.uid.ty,.string q2.uid.id,.int .i64 q3.op,.string q3.ty,.string q3.uid.ty,.string q3.uid.id,.slice none 0 0]):=by
       show Blk _ _ _ _;rw [<-hwf];exact Qk [.string ⟨#[]⟩,.bool false,.int .i64 0,.string ⟨#[]⟩,.string ⟨#[]⟩,.string ⟨#[]⟩,.int .i64 0,.string ⟨#[]⟩,.string ⟨#[]⟩,.string ⟨#[]⟩,.int .i64 0,.string ⟨#[]⟩,.string ⟨#[]⟩,.string ⟨#[]⟩,.slice none 0 0] [.string y.p.name,.bool y.p.forbid,.int .i64 q1.op,.string q1.ty,.string q1.uid.ty,.string q1.uid.id,.int .i64 q2.op,.string q2.ty,.string q2.uid.ty,.string q2.uid.id,.int .i64 q3.op,.string q3.ty,.string q3.uid.ty,.string q3.uid.id,.slice none 0 0] rfl Z6.out
      clear hwf hfin;refine Zha ?_;go_wp2_with fail
      go_meet
      exact ⟨w4.heap.size,rfl,hle,X9,Y9⟩
  . go_simp
    refine hK _ _ (MpS.of B3.out D3.out (((RowKit.Below.refl w3.heap.size w3).alloc (nL _) _).drew)) ?_;clear hK K;have HB9:Hid (RowKit.Below w3.heap.size w3 (w3.alloc (.cells #[.string ⟨#[]⟩,.bool false,.int .i64 0,.string ⟨#[]⟩,.string ⟨#[]⟩,.string ⟨#[]⟩,.int .i64 0,.string ⟨#[]⟩,.string ⟨#[]⟩,.string ⟨#[]⟩,.int .i64 0,.string ⟨#[]⟩,.string ⟨#[]⟩,.string ⟨#[]⟩,.slice none 0 0] 47)).drew):=Ld (((RowKit.Below.refl w3.heap.size w3).alloc (nL _) _).drew);have Z9:Hid (Blk (w3.alloc (.cells #[.string ⟨#[]⟩,.bool false,.int .i64 0,.string ⟨#[]⟩,.string ⟨#[]⟩,.string ⟨#[]⟩,.int .i64 0,.string ⟨#[]⟩,.string ⟨#[]⟩,.string ⟨#[]⟩,.int .i64 0,.string ⟨#[]⟩,.string ⟨#[]⟩,.string ⟨#[]⟩,.slice none 0 0] 47)).drew w3.heap.size 47 #[.string ⟨#[]⟩,.bool false,.int .i64 0,.string ⟨#[]⟩,.string ⟨#[]⟩,.string ⟨#[]⟩,.int .i64 0,.string ⟨#[]⟩,.string ⟨#[]⟩,.string ⟨#[]⟩,.int .i64 0,.string ⟨#[]⟩,.string ⟨#[]⟩,.string ⟨#[]⟩,.slice none 0 0]):=Ld ((Blk.new w3 47 #[.string ⟨#[]⟩,.bool false,.int .i64 0,.string ⟨#[]⟩,.string ⟨#[]⟩,.string ⟨#[]⟩,.int .i64 0,.string ⟨#[]⟩,.string ⟨#[]⟩,.string ⟨#[]⟩,.int .i64 0,.string ⟨#[]⟩,.string ⟨#[]⟩,.string ⟨#[]⟩,.slice none 0 0]).drew);have hle:w3.heap.size<=w3.heap.size:=nL _;generalize hwa:(w3.alloc (.cells #[.string ⟨#[]⟩,.bool false,.int .i64 0,.string ⟨#[]⟩,.string ⟨#[]⟩,.string ⟨#[]⟩,.int .i64 0,.string ⟨#[]⟩,.string ⟨#[]⟩,.string ⟨#[]⟩,.int .i64 0,.string ⟨#[]⟩,.string ⟨#[]⟩,.string ⟨#[]⟩,.slice none 0 0] 47)).drew=w9 at HB9 Z9 ⊢;clear hwa;refine V3 (λK hK=>?_);go_simp
    refine (HU1.out _).mono ?_;rintro r w4 ⟨rfl,hb⟩;have HB4:=Ld (HB9.out.trans (hb.mono HB9.out.size));have Z4:=Ld (Z9.out.below hb Z9.out.lt);refine hK _ _ (MpS.of B3.out D3.out HB4.out) ?_;clear hK K hb;refine V3 (λK hK=>?_);go_simp
    refine (HU2.out _).mono ?_;rintro r w5 ⟨rfl,hb⟩;have HB5:=Ld (HB4.out.trans (hb.mono HB4.out.size));have Z5:=Ld (Z4.out.below hb Z4.out.lt);refine hK _ _ (MpS.of B3.out D3.out HB5.out) ?_;clear hK K hb;refine V3 (λK hK=>?_);go_simp
    refine (HU3.out _).mono ?_;rintro r w6 ⟨rfl,hb⟩;have HB6:=Ld (HB5.out.trans (hb.mono HB5.out.size));have Z6:=Ld (Z5.out.below hb Z5.out.lt);refine hK _ _ (MpS.of B3.out D3.out HB6.out) ?_;clear hK K hb;(repeat (refine Kl (v:=?_) (by rfl) ?_ ?_;rotate_left;(focus (intro W hW;obtain ⟨s0,s1,s2,s3,s4,s5,s6,s7,s8,s9,s10,s11,s12,s13,s14,s15,s16,s17⟩:=hW;go_simp;try with_reducible rfl));simp only [Act.put,pA,pB,pC]))
    have zc:=Z6.out.cell;have zf:=Z6.out.frozen;have zl:=Z6.out.lt;refine V3 (λK hK=>?_);go_simp
    have hfin:=HB6.out;refine hK _ _ ?_ ?_
    . exact MpS.of B3.out D3.out (Y8 hle 0 [.string y.p.name,.bool y.p.forbid,.int .i64 q1.op,.string q1.ty,.string q1.uid.ty,.string q1.uid.id,.int .i64 q2.op,.string q2.ty,.string q2.uid.ty,.string q2.uid.id,.int .i64 q3.op,.string q3.ty,.string q3.uid.ty,.string q3.uid.id,.slice none 0 0] hfin)
    clear hK K zc zf zl;generalize hwf:World.setCell (World.setCell _ _ _) _ _=wf;have Y9:Hid (RowKit.Below w3.heap.size w3 wf):=by
     show RowKit.Below _ _ _;rw [<-hwf];exact Y8 hle 0 [.string y.p.name,.bool y.p.forbid,.int .i64 q1.op,.string q1.ty,.string q1.uid.ty,.string q1.uid.id,.int .i64 q2.op,.string q2.ty,.string q2.uid.ty,.string q2.uid.id,.int .i64 q3.op,.string q3.ty,.string q3.uid.ty,.string q3.uid.id,.slice none 0 0] hfin
    have X9:Hid (Blk wf w3.heap.size 47 #[.string y.p.name,.bool y.p.forbid,.int .i64 q1.op,.string q1.ty,.string q1.uid.ty,.string q1.uid.id,.int .i64 q2.op,.string q2.ty,.string q2.uid.ty,.string q2.uid.id,.int .i64 q3.op,.string q3.ty,.string q3.uid.ty,.string q3.uid.id,.slice none 0 0]):=by
     show Blk _ _ _ _;rw [<-hwf];exact Qk [.string ⟨#[]⟩,.bool false,.int .i64 0,.string ⟨#[]⟩,.string ⟨#[]⟩,.string ⟨#[]⟩,.int .i64 0,.string ⟨#[]⟩,.string ⟨#[]⟩,.string ⟨#[]⟩,.int .i64 0,.string ⟨#[]⟩,.string ⟨#[]⟩,.string ⟨#[]⟩,.slice none 0 0] [.string y.p.name,.bool y.p.forbid,.int .i64 q1.op,.string q1.ty,.string q1.uid.ty,.string q1.uid.id,.int .i64 q2.op,.string q2.ty,.string q2.uid.ty,.string q2.uid.id,.int .i64 q3.op,.string q3.ty,.string q3.uid.ty,.string q3.uid.id,.slice none 0 0] rfl Z6.out
    clear hwf hfin;refine Zha ?_;go_wp2_with fail
    go_meet
    exact ⟨w3.heap.size,rfl,hle,X9,Y9⟩
 case rest=>
  obtain ⟨bx,rfl,hbx,X7,HB7⟩:=hcut;obtain ⟨w7,rfl⟩:∃w7,w7=wc:=⟨_,rfl⟩;have B7:=Ld (B3.out.below HB7.out B3.out.lt);have D7:=Ld (D3.out.below HB7.out D3.out.lt);have R7:=Ld (R3.out.below HB7.out R3.out.lt);have HW7:=Ld (HB3.out.trans (HB7.out.mono HB3.out.size));have hbl:bx < w7.heap.size:=X7.out.lt;have h73:=HB7.out.size;have h3g:w.heap.size+1+1 < w3.heap.size:=R3.out.lt;have HX3:=Ld h3g;have HX4:=Ld h73;have HX5:=Ld hbx;clear HS0 HB7 B3 D3 R3 HB3 h73 h3g hbx;have dc:=D7.out.cell;have dl:=D7.out.lt;go_wp2_with fail
  go_loopw [45] (λkk wr=>∃(k:Nat) (uv:Value) (ds:List CdM),kk=.int .i64 k/\k<=y.cs.length/\Hid (Blk wr bx 47 #[.string y.p.name,.bool y.p.forbid,.int .i64 q1.op,.string q1.ty,.string q1.uid.ty,.string q1.uid.id,.int .i64 q2.op,.string q2.ty,.string q2.uid.ty,.string q2.uid.id,.int .i64 q3.op,.string q3.ty,.string q3.uid.ty,.string q3.uid.id,uv])/\Hid (Jv w7.heap.size w7.heap.size ds uv wr)/\ds.length=k/\Hid (ds.map CdM.cd=(y.cs.take k).map λx=>mvC m x.cd)/\Hid (∀z∈ds,NdI z.e)/\RowKit.Below w3.heap.size w7 wr) (λkk _=>y.cs.length - (intOf kk).toNat)
  case atStart=>exact ⟨0,_,[],rfl,by omega,X7,Jv.nil _ _ _,rfl,rfl,Ld (λz hz=>by cases hz),RowKit.Below.refl _ _⟩
  case round=>
   obtain ⟨k,uv,ds,rfl,hk,HXB,HCK,hdl,HDS,HNI,hbr⟩:=hrel;have hzr:=hbr.size;have BR:=Ld (B7.out.below hbr (by have:=HX3.out;omega));have RR:=Ld (R7.out.below hbr (by have:=HX3.out;omega));have HWR:=Ld (HW7.out.trans (hbr.mono (by have:=HX3.out;omega)));by_cases hlt:k < y.cs.length
   case neg=>
    obtain rfl:k=y.cs.length:=(by omega);rw [List.take_length] at HDS;have ho:=HCK.out.own;rw [hdl] at ho;obtain ⟨-,A9,c9,hv9,h91,h92,-⟩:=Y1 Zxc ho;subst hv9;have xc:=HXB.out.cell;have xl:=HXB.out.lt;have rc:=RR.out.cell;have rf:=RR.out.frozen;have rl:=RR.out.lt;clear ho dc dl;obtain ⟨w9,rfl⟩:∃w9,w9=wr:=⟨_,rfl⟩;clear hk hlt;go_wp2_with fail
    generalize hwf:World.setCell (World.setCell _ _ _) _ _=wf;have hle:w3.heap.size<=bx:=HX5.out;have Rf:Blk wf (w.heap.size+1+1) 47 #[.string y.p.name,.bool y.p.forbid,.int .i64 q1.op,.string q1.ty,.string q1.uid.ty,.string q1.uid.id,.int .i64 q2.op,.string q2.ty,.string q2.uid.ty,.string q2.uid.id,.int .i64 q3.op,.string q3.ty,.string q3.uid.ty,.string q3.uid.id,.slice A9 y.cs.length c9]:=by
     rw [<-hwf];exact Qk [.string ⟨#[]⟩,.bool false,.int .i64 0,.string ⟨#[]⟩,.string ⟨#[]⟩,.string ⟨#[]⟩,.int .i64 0,.string ⟨#[]⟩,.string ⟨#[]⟩,.string ⟨#[]⟩,.int .i64 0,.string ⟨#[]⟩,.string ⟨#[]⟩,.string ⟨#[]⟩,.slice none 0 0] [.string y.p.name,.bool y.p.forbid,.int .i64 q1.op,.string q1.ty,.string q1.uid.ty,.string q1.uid.id,.int .i64 q2.op,.string q2.ty,.string q2.uid.ty,.string q2.uid.id,.int .i64 q3.op,.string q3.ty,.string q3.uid.ty,.string q3.uid.id,.slice A9 y.cs.length c9] rfl RR.out
    have Cf:Jv w7.heap.size w7.heap.size ds (.slice A9 y.cs.length c9) wf:=by
     rw [<-hwf];exact Zim (nL _) (show w.heap.size+1+1 < w7.heap.size by have:=HX3.out;have:=HX4.out;omega) 0 [.string y.p.name,.bool y.p.forbid,.int .i64 q1.op,.string q1.ty,.string q1.uid.ty,.string q1.uid.id,.int .i64 q2.op,.string q2.ty,.string q2.uid.ty,.string q2.uid.id,.int .i64 q3.op,.string q3.ty,.string q3.uid.ty,.string q3.uid.id,.slice A9 y.cs.length c9] HCK.out
    have Bf:RowKit.Below w.heap.size w wf:=by
     rw [<-hwf];exact Y8 (show w.heap.size<=w.heap.size+1+1 by omega) 0 [.string y.p.name,.bool y.p.forbid,.int .i64 q1.op,.string q1.ty,.string q1.uid.ty,.string q1.uid.id,.int .i64 q2.op,.string q2.ty,.string q2.uid.ty,.string q2.uid.id,.int .i64 q3.op,.string q3.ty,.string q3.uid.ty,.string q3.uid.id,.slice A9 y.cs.length c9] HWR.out
    have fc:=Rf.cell;clear hwf xc xl rc rf rl;refine bodyPost_ret (v:=.tuple #[.agg #[.string y.p.name,.bool y.p.forbid,.int .i64 q1.op,.string q1.ty,.string q1.uid.ty,.string q1.uid.id,.int .i64 q2.op,.string q2.ty,.string q2.uid.ty,.string q2.uid.id,.int .i64 q3.op,.string q3.ty,.string q3.uid.ty,.string q3.uid.id,.slice A9 ds.length c9],.nilIface]) (by simp [results,Tryz.results41,go_sem,fc,hdl]) rfl ⟨A9,c9,ds,by rw [HMO.out],⟨by rw [HSM.out,HDS.out],by rw [hdl];exact h91,h92,HPZ.out,(Cf.cdf (nL _)).mono (λb _ hb=>by have:=HW7.out.size;exact Nat.lt_of_lt_of_le hb this),HNI.out⟩,Bf⟩
   obtain ⟨x,hx⟩:∃x,y.cs[k]? = some x:=⟨_,gE hlt⟩;have hxm:=mG hx;obtain ⟨b,o,hA,hb,d0,d1⟩:=Zmx (HYW.out.later HWR.out).at_.sl hx;rw [hA];have i1:(0:Int)<=(k:Int):=(by omega);have i2:(k:Int) < (y.cs.length:Int):=(by omega);have HXX:=Ld hx;have mc:=BR.out.cell;have ml:=BR.out.lt;have hx10:RowKit.Below wr.heap.size wr (wr.alloc (.cells #[.bool x.u,.slice x.A x.e.length x.c] 53)):=(by (repeat (first | assumption | exact bR | apply bD | apply Za | refine bA ?_ _)));have HX10:=Ld hx10;have E10:=Ld (Blk.new wr 53 #[.bool x.u,.slice x.A x.e.length x.c]);have X10:=Ld (HXB.out.alloc (.cells #[.bool x.u,.slice x.A x.e.length x.c] 53));have HA1:=Ld (HA.out _ (HWR.out.trans (hx10.mono HWR.out.size)) x hxm);have HXN1:=Ld (HXN.out x hxm);clear hx10 dc dl hx hxm;go_wp2_with fail
   refine HA1.out.mono ?_;rintro r wA ⟨A3,c3,rfl,l1,l2,s3,hbA,hfA⟩;have HBA:=Ld (HX10.out.trans (hbA.mono HX10.out.size));have hxb:RowKit.Below wA.heap.size wA (wA.alloc (.cells #[.bool x.u,.slice A3 (mvX m x.e).length c3] 53)):=(by (repeat (first | assumption | exact bR | apply bD | apply Za | refine bA ?_ _)));have EA:=Ld (E10.out.below hbA E10.out.lt);have XA:=Ld (X10.out.below hbA X10.out.lt);have XB:=Ld ((X10.out.below hbA X10.out.lt).alloc (.cells #[.bool x.u,.slice A3 (mvX m x.e).length c3] 53));have HBB:=Ld (HBA.out.trans (hxb.mono HBA.out.size));have HCB:=Ld (HCK.out.later HBB.out);have HRX:=Ld HCB.out.own;have HOL:=Ld (show ∀b,uv.ownBlock=some b->w7.heap.size<=b/\b < wr.heap.size from λb hb=>Yf HCK.out.own hb);have HOF:Hid (Xu (λb=>b < w7.heap.size\/Zhc uv b) (wA.alloc (.cells #[.bool x.u,.slice A3 (mvX m x.e).length c3] 53)) (wA.alloc (.cells #[.bool x.u,.slice A3 (mvX m x.e).length c3] 53)).heap.size A3 (mvX m x.e)):=by
    refine Ld (Xu.keep (w:=wA) (B:=wA.heap.size) (λhne=>?_) (λ_ hp _=>hxb.cell hp) hxb.size);obtain ⟨b,o,e,g1,g2⟩:=s3 hne;refine ⟨b,o,e,g1,?_,g2⟩;have h1:=hfA b o e;rw [World.size_alloc] at h1;rintro (h2 | h2)
    . omega
    . have:=(HOL.out b h2).2;omega
   have HLE:=Ld (show (mvX m x.e).length<=c3/\c3<=9223372036854775807/\Y0 (mvX m x.e) from ⟨l1,l2,HXN1.out.1⟩);have HNB:=Ld (Blk.new wA 53 #[.bool x.u,.slice A3 (mvX m x.e).length c3]);have HBZ:=Ld (show w7.heap.size<=(wA.alloc (.cells #[.bool x.u,.slice A3 (mvX m x.e).length c3] 53)).heap.size from Nat.le_trans hzr HBB.out.size);have HTK:Hid (Zr CdM.cells ds ++ [.bool x.u,.slice A3 (mvX m x.e).length c3]=Zr CdM.cells (ds ++ [⟨x.u,A3,c3,mvX m x.e⟩])):=by
    show _=_;rw [Y6,J9];rfl
   have HBW:=Ld (hbr.trans (HBB.out.mono (by have:=HX4.out;omega)));subst hdl;clear hxb l1 l2 s3 hbA hfA HA1 mc ml;have ec:=EA.out.cell;have el:=EA.out.lt;have xc:=XA.out.cell;have xl:=XA.out.lt;go_wp2_with (at_builtin;refine wpList_append_own_at _ rfl (.tmp 62) (.tmp 67) 45 rfl w7.heap.size 53 iu _ 2 32 Tryz.underlying45 hiu hu0 hu1 hu2 rfl (by omega) _ ds.length (Zr CdM.cells ds) rfl HRX.out ⟨wA.heap.size,0,none⟩ 1 1 [.bool x.u,.slice A3 (mvX m x.e).length c3] rfl rfl (λi u hu=>by rw [Vs,Nat.zero_add,HNB.out.cell,<-hu];simp) (by simp [Value.oneCell']) (by unfold maxLen;omega) (by omega) HBZ.out ?_;intro v9 w9 hown9 hgrow9 _ hloc9;have HC9:=Ld (Jv.more (z:=⟨x.u,A3,c3,mvX m x.e⟩) HCB.out HOF.out HLE.out hown9 hgrow9 hloc9);have K9:=Ld (Zen XB.out hgrow9 (λe=>by have:=(HOL.out _ e.symm).1;omega));have HB9:Hid (RowKit.Below w3.heap.size w7 w9):=(HBW.out.grown hgrow9 (by have:=HX4.out;have:=HBZ.out;omega) (λq hq=>by have:=(HOL.out q hq).1;have:=HX4.out;omega));rw [HTK.out] at hown9;obtain ⟨-,A9,c9,hv9,-⟩:=Y1 Zxc hown9;subst hv9;clear hown9 hgrow9 hloc9;have kc:=K9.out.cell;have kf:=K9.out.frozen;have kl:=K9.out.lt)
   refine ⟨⟨ds.length+1,.slice A9 (ds.length+1) c9,ds ++ [⟨x.u,A3,c3,mvX m x.e⟩],by go_num,by omega,K9.out.set 14 _,Ld (Jv.far HC9.out (nL _) (p:=⟨bx,14,none⟩) hbl _),by simp,Ld (Zyt HDS.out HXX.out rfl),Ld (λz hz=>?_),HB9.out.setCell HX5.out _⟩,by simp [intOf];omega⟩;rcases List.mem_append.1 hz with hz | hz
   . exact HNI.out z hz
   . rw [List.mem_singleton] at hz;subst hz;exact HXN1.out.2
theorem Zh7 (k1 k2 k3:Int)(b c:Nat)(w:World)(h1:w.cell? ⟨b,0,none⟩=some (Yh k1))(h2:w.cell? ⟨b,1,none⟩=some (Yh k2))(h3:w.cell? ⟨b,2,none⟩=some (Yh k3)) :
 Calls Tryz.prog 71 #[.slice (some ⟨b,0,none⟩) 3 c] w λr w'=>r=.returned (Yh (if k1≠0 then k1 else if k2≠0 then k2 else k3))/\w'=w:=by
 obtain ⟨k,hk⟩:∃k,k=if k1≠0 then k1 else if k2≠0 then k2 else k3:=⟨_,rfl⟩;rw [<-hk];have HK:=Ld hk;clear hk;go_enter Tryz.func71,Tryz.ntmps71
 go_wp2_with fail
 refine wp_loop_rounds 4 ?_;by_cases g1:k1=0
 case neg=>
  have t1:(k1 != 0)=true:=by simpa using g1
  obtain rfl:k=k1:=by rw [HK.out,if_pos g1]
  clear HK g1;rw [rounds_succ];go_wp2_with fail
  go_ret
  exact ⟨rfl,rfl⟩
 have t1:(k1 != 0)=false:=by simpa using g1
 have HG1:=Ld g1;clear g1;rw [rounds_succ];go_wp2_with fail
 by_cases g2:k2=0
 case neg=>
  have t2:(k2 != 0)=true:=by simpa using g2
  obtain rfl:k=k2:=by rw [HK.out,if_neg (by simp [HG1.out]),if_pos g2]
  clear HK g2;rw [rounds_succ];go_wp2_with fail
  go_ret
  exact ⟨rfl,rfl⟩
 have t2:(k2 != 0)=false:=by simpa using g2
 obtain rfl:k=k3:=by rw [HK.out,if_neg (by simp [HG1.out]),if_neg (by simp [g2])]
 clear HK g2 HG1;rw [rounds_succ];go_wp2_with fail
 by_cases g3:k=0
 case neg=>
  have t3:(k != 0)=true:=by simpa using g3
  clear g3;rw [rounds_succ];go_wp2_with fail
  go_ret
  exact ⟨rfl,rfl⟩
 subst g3;have t3:((0:Int) != 0)=false:=rfl;rw [rounds_succ];go_wp2_with fail
 rw [rounds_succ];go_wp2_with fail
 go_ret
 exact ⟨rfl,rfl⟩
end Go.Proofs.YtpheiojmcafolaaGreatDoor
namespace Go.Proofs.YtpheiojmcafolaaGreatDoor
open Go.RowKit Go.Sort Go.Maps
def Z3w (ns:List (List UInt8))(D:DataW Unit):Prop:=∀l:List UInt8,Maps.has D (.string l)=decide (l∈ns)
theorem Zyn:Z3w [] (.map []:DataW Unit):=λl=>by simp [Maps.has]
theorem Zx9 {ns:List (List UInt8)}{D:DataW Unit}(h:Z3w ns D)(hD:Maps.IsMap D){s:ByteArray}(hs:s.size<=maxLen)(d:DataW Unit):Z3w (ns ++ [s.toList]) (D.put (.string s.toList) d):=by
 intro l;have hkey:WideAt.IsKeyLit (.string s.toList):=by rw [<-Qg];exact Qf.key (Zbq hs)
 by_cases e:l=s.toList
 . subst e;rw [has_put_same hD hkey];simp
 . have hne:(Lit.string l)≠.string s.toList:=λh=>e (by injection h);rw [has_put_other hne,h l];simp [e]
def Zkf (w:World)(mb:Nat)(ns:List (List UInt8)):Prop:=∃D,w.ownsMap Tryz.prog 9 (plainElem (H:=Unit) Tryz.prog 3) mb ns.length D/\Z3w ns D
theorem Zkf.kept {w w':World}{mb:Nat}{ns:List (List UInt8)}(h:Zkf w mb ns){row:Option Nat}(hg:w.grownBy w' row)(hne:some mb≠row):Zkf w' mb ns:=by
 obtain ⟨D,h1,h2⟩:=h;exact ⟨D,h1.kept hg hne,h2⟩
theorem Zkf.lt {w:World}{mb:Nat}{ns:List (List UInt8)}(h:Zkf w mb ns):mb < w.heap.size:=by
 obtain ⟨D,h1,_⟩:=h;exact h1.lt
theorem Zkf.below {w w':World}{mb:Nat}{ns:List (List UInt8)}(h:Zkf w mb ns)(hb:RowKit.Below w.heap.size w w'):Zkf w' mb ns:=
 h.kept (row:=none) ⟨hb.os,hb.tape,hb.output,hb.size,λk hk _=>hb.block k hk⟩ (by simp)
theorem Z26 (w:World):Zkf (w.alloc (.map #[] 0)) w.heap.size []:=⟨_,World.ownsMap_made _ _ _ _,Zyn⟩
theorem Zux (w:World):(zeroValue 3).run Tryz.prog w=.ok (.int .i64 0) w:=by kernel_rfl
theorem Z15 {w:World}{mb:Nat}{ns:List (List UInt8)}(h:Zkf w mb ns){s:ByteArray}(hs:s.size<=maxLen) :
 ∃v,(Instr.lookup 167 (.map (some mb)) (.string s) true).run Tryz.prog w=.ok (.tuple #[v,.bool (decide (s.toList∈ns))]) w:=by
 obtain ⟨D,h1,h2⟩:=h;obtain ⟨v,ps,hr,hv⟩:=h1.look_ok Qf Tryz.underlying167 (Zux w) (zd:=.lit (.int .i64 0)) (zp:=[]) (plainElem_int Tryz.underlying3 (by decide)) (Zbq hs);rw [Qg,h2 s.toList] at hr;exact ⟨v,hr⟩
theorem Z4i {w:World}{mb:Nat}{ns:List (List UInt8)}(h:Zkf w mb ns){s:ByteArray}(hs:s.size<=maxLen)(hl:ns.length<=1000){i:Nat}(hi:i<=1000) :
 ∃w',(Instr.mapUpdate 167 (.map (some mb)) (.string s) (.int .i64 i)).run Tryz.prog w=.ok () w'/\Zkf w' mb (ns ++ [s.toList])/\w.grownBy w' (some mb):=by
 obtain ⟨D,h1,h2⟩:=h;have hv:plainElem (H:=Unit) Tryz.prog 3 (.int .i64 i)=some (.lit (.int .i64 i),[]):=plainElem_int Tryz.underlying3 (by unfold Lit.wf;rw [Bool.and_eq_true,decide_eq_true_eq,decide_eq_true_eq];exact ⟨by show (-9223372036854775808:Int)<=(i:Int);omega,by show (i:Int)<=9223372036854775807;omega⟩);obtain ⟨w',hr,h3,h4⟩:=h1.update Qf Tryz.underlying167 (by unfold maxLen;omega) (Zbq hs) hv;rw [Qg] at h3;refine ⟨w',hr,⟨D.put (.string s.toList) (.lit (.int .i64 i)),?_,Zx9 h2 h1.isMap hs _⟩,h4⟩;rw [List.length_append];exact h3
end Go.Proofs.YtpheiojmcafolaaGreatDoor
namespace Go.Proofs.YtpheiojmcafolaaGreatDoor
open Go.RowKit Go.Sort
theorem Za9 {w:World}{B:Nat}{A:Option Addr}{xs:List PoM}(h:Z5i w B A xs){i:Nat}{x:PoM}(hx:xs[i]? = some x):∃b o,A=some ⟨b,o,none⟩/\b < B /\
 w.cell? ⟨b,o+i*15,none⟩=some (.string x.p.name)/\w.cell? ⟨b,o+i*15+1,none⟩=some (.bool x.p.forbid) /\
 w.cell? ⟨b,o+i*15+2,none⟩=some (.int .i64 x.p.who.op)/\w.cell? ⟨b,o+i*15+3,none⟩=some (.string x.p.who.ty)/\w.cell? ⟨b,o+i*15+4,none⟩=some (.string x.p.who.uid.ty)/\w.cell? ⟨b,o+i*15+5,none⟩=some (.string x.p.who.uid.id) /\
 w.cell? ⟨b,o+i*15+6,none⟩=some (.int .i64 x.p.act.op)/\w.cell? ⟨b,o+i*15+7,none⟩=some (.string x.p.act.ty)/\w.cell? ⟨b,o+i*15+8,none⟩=some (.string x.p.act.uid.ty)/\w.cell? ⟨b,o+i*15+9,none⟩=some (.string x.p.act.uid.id) /\
 w.cell? ⟨b,o+i*15+10,none⟩=some (.int .i64 x.p.what.op)/\w.cell? ⟨b,o+i*15+11,none⟩=some (.string x.p.what.ty)/\w.cell? ⟨b,o+i*15+12,none⟩=some (.string x.p.what.uid.ty)/\w.cell? ⟨b,o+i*15+13,none⟩=some (.string x.p.what.uid.id) /\
 w.cell? ⟨b,o+i*15+14,none⟩=some (.slice x.A x.cs.length x.c):=by
 obtain ⟨b,o,e,hb,hc⟩:=Zue h hx;exact ⟨b,o,e,hb,hc 0 _ rfl,hc 1 _ rfl,hc 2 _ rfl,hc 3 _ rfl,hc 4 _ rfl,hc 5 _ rfl,hc 6 _ rfl,hc 7 _ rfl,hc 8 _ rfl,hc 9 _ rfl,hc 10 _ rfl,hc 11 _ rfl,hc 12 _ rfl,hc 13 _ rfl,hc 14 _ rfl⟩
theorem Blk.kept {w w':World}{g:Nat}{t:TypeId}{cs:Array Value}{row:Option Nat}(h:Blk w g t cs)(hg:w.grownBy w' row)(hn:some g≠row):Blk w' g t cs:=(hg.block g h.lt hn).trans h
theorem Zhr (ps:List PoM)(A:Option Addr)(c:Nat)(w:World)(hI:Q6 w A ps) :
 Calls Tryz.prog 72 #[.slice A ps.length c] w λr w'=>r=.returned (Yh (Zlk ps))/\RowKit.Below w.heap.size w w':=by
 obtain ⟨E,hE⟩:∃E,Zlk ps=E:=⟨_,rfl⟩;rw [hE];have hmm:=@run_makeMap Tryz.prog;have HI:=Ld hI;by_cases h12:12 < ps.length
 . have i12:(12:Int) < (ps.length:Int):=by omega
   obtain rfl:E=4:=by rw [<-hE];unfold Zlk Ze9;rw [if_pos h12]
   clear hE hI;go_enter Tryz.func72,Tryz.ntmps72
   go_wp2_with fail
   go_ret
   exact ⟨rfl,RowKit.Below.refl _ _⟩
 . have i12:¬(12:Int) < (ps.length:Int):=by omega
   have HE:Hid (Zau nmQ Zuh Zpx ps []=E):=by show _=_;rw [<-hE];unfold Zlk Ze9;rw [if_neg h12]
   have hw0:RowKit.Below w.heap.size w (w.alloc (.map #[] 0)):=by (repeat (first | assumption | exact bR | apply bD | apply Za | refine bA ?_ _))
   have HN0:=Ld (Z26 w);clear hE hI;go_enter Tryz.func72,Tryz.ntmps72
   go_wp2_with fail
   go_loopw [20] (λkk wr=>∃k:Nat,kk=.int .i64 k/\k<=ps.length/\Hid (Zkf wr w.heap.size ((ps.take k).map nmQ))/\Hid (Zau nmQ Zuh Zpx (ps.drop k) ((ps.take k).map nmQ)=E)/\RowKit.Below w.heap.size w wr) (λkk _=>ps.length - (intOf kk).toNat)
   case atStart=>exact ⟨0,rfl,by omega,HN0.out,HE.out,hw0⟩
   case round=>
    obtain ⟨k,rfl,hk,HN,HG,hbr⟩:=hrel;have hzr:=hbr.size;have hmb:=HN.out.lt;by_cases hlt:k < ps.length
    . obtain ⟨x,hx⟩:∃x,ps[k]? = some x:=⟨_,gE hlt⟩;obtain ⟨b,o,rfl,hb,d0,d1,d2,d3,d4,d5,d6,d7,d8,d9,d10,d11,d12,d13,d14⟩:=Za9 (HI.out.later hbr).sl hx;have HMEM:=Ld (mG hx);have HX:=Ld (HI.out.each x HMEM.out);have HT:Hid ((ps.take (k+1)).map nmQ=(ps.take k).map nmQ ++ [x.p.name.toList]):=(by show _=_;rw [List.take_add_one,hx,List.map_append];rfl);have hG:=HG.out;rw [Zny hx] at hG;have hnsz:x.p.name.size<=maxLen:=(by have:=HX.out.z.1;unfold maxLen;omega);have hml:((ps.take k).map nmQ).length<=1000:=(by rw [List.length_map,List.length_take];omega);have b0:Blk (wr.alloc (.cells #[.string x.p.name,.bool x.p.forbid,.int .i64 x.p.who.op,.string x.p.who.ty,.string x.p.who.uid.ty,.string x.p.who.uid.id,.int .i64 x.p.act.op,.string x.p.act.ty,.string x.p.act.uid.ty,.string x.p.act.uid.id,.int .i64 x.p.what.op,.string x.p.what.ty,.string x.p.what.uid.ty,.string x.p.what.uid.id,.slice x.A x.cs.length x.c] 47)) wr.heap.size 47 #[.string x.p.name,.bool x.p.forbid,.int .i64 x.p.who.op,.string x.p.who.ty,.string x.p.who.uid.ty,.string x.p.who.uid.id,.int .i64 x.p.act.op,.string x.p.act.ty,.string x.p.act.uid.ty,.string x.p.act.uid.id,.int .i64 x.p.what.op,.string x.p.what.ty,.string x.p.what.uid.ty,.string x.p.what.uid.id,.slice x.A x.cs.length x.c]:=Blk.new wr _ _;have hb0:RowKit.Below wr.heap.size wr (wr.alloc (.cells #[.string x.p.name,.bool x.p.forbid,.int .i64 x.p.who.op,.string x.p.who.ty,.string x.p.who.uid.ty,.string x.p.who.uid.id,.int .i64 x.p.act.op,.string x.p.act.ty,.string x.p.act.uid.ty,.string x.p.act.uid.id,.int .i64 x.p.what.op,.string x.p.what.ty,.string x.p.what.uid.ty,.string x.p.what.uid.id,.slice x.A x.cs.length x.c] 47)):=(by (repeat (first | assumption | exact bR | apply bD | apply Za | refine bA ?_ _)));have HK:=Ld (λW (hW:RowKit.Below w.heap.size w W)=>Ja x.p x.cs x.A x.c W HX.out.same HX.out.z (HX.out.later hW).at_ (Nat.le_trans HX.out.le HX.out.max));have HP:=Ld (λW (hW:RowKit.Below w.heap.size w W)=>Zay x.p x.cs x.A x.c W HX.out.same HX.out.z (HX.out.later hW).at_ (Nat.le_trans HX.out.le HX.out.max));have HS:=Ld (λW (hW:RowKit.Below w.heap.size w W) hk=>Zqx x.p x.cs x.A x.c W HX.out.same HX.out.z (HX.out.later hW).at_ (Nat.le_trans HX.out.le HX.out.max) hk);have HN1:=Ld (HN.out.below hb0);have B1:=Ld b0;have HB1:=Ld hb0;clear hx HG b0 hb0 HN;go_wp2_with fail
      refine (HK.out _ (hbr.trans (HB1.out.mono hzr))).mono ?_;rintro r w2 ⟨rfl,hb2⟩;have B2:=Ld (B1.out.below hb2 B1.out.lt);have HB2:=Ld (HB1.out.trans (hb2.mono HB1.out.size));have HN2:=Ld (HN1.out.below hb2);clear hb2 B1 HB1 HN1 HK;by_cases k1:Ys x.p=0
      case neg=>
       have t1:(Ys x.p != 0)=true:=(by simpa using k1);rw [show Zuh x=Ys x.p from rfl] at hG;rw [if_pos k1] at hG;subst hG;clear k1;go_wp2_with fail
       go_ret
       exact ⟨rfl,hbr.trans (HB2.out.mono hzr)⟩
      have t1:(Ys x.p != 0)=false:=(by simpa using k1);have HK1:=Ld k1;rw [show Zuh x=Ys x.p from rfl] at hG;rw [if_neg (by simp [k1])] at hG;have c0:w2.cell? ⟨wr.heap.size,0,none⟩=some (.string x.p.name):=B2.out.cell 0;have l0:wr.heap.size < w2.heap.size:=B2.out.lt;obtain ⟨v2,hv2⟩:=Z15 HN2.out hnsz;clear k1;by_cases hin:x.p.name.toList∈(ps.take k).map nmQ
      . rw [decide_eq_true hin] at hv2;have:E=6:=by
         have h2:nmQ x∈(ps.take k).map nmQ:=hin;rw [if_pos h2] at hG;exact hG.symm
        subst this;clear hG hin;go_wp2_with fail
        go_ret
        exact ⟨rfl,hbr.trans (HB2.out.mono hzr)⟩
      rw [decide_eq_false hin] at hv2;have h2:¬nmQ x∈(ps.take k).map nmQ:=hin;rw [if_neg h2] at hG;obtain ⟨w3,hr3,hm3,hg3⟩:=Z4i HN2.out hnsz hml (i:=k) (by omega);rw [<-HT.out] at hm3;have HM3:=Ld hm3;have B3:=Ld (B2.out.kept hg3 (by intro e;injection e with e;omega));have HB3:Hid (RowKit.Below w.heap.size w w3):=(hbr.trans (HB2.out.mono hzr)).grown hg3 (by omega) (λj hj=>by injection hj with hj;omega);have c3:=B3.out.cell;have l3:=B3.out.lt;clear h2 hin hm3 hg3 HN2 B2 HB2;go_wp2_with fail
      clear c0 l0 hv2;refine (HP.out _ HB3.out).mono ?_;rintro r w4 ⟨A4,c4,rfl,hl4,hm4,hs4,hb4⟩;have B4:=Ld (B3.out.below hb4 B3.out.lt);have HB4:=Ld (HB3.out.trans (hb4.mono HB3.out.size));have HM4:=Ld (HM3.out.below hb4);clear hl4 hm4 hs4 hb4 HB3 B3 HM3 HP c3 l3 hr3;obtain ⟨k2,hk2⟩:∃k2,(Yv x.p).2=k2:=⟨_,rfl⟩;rw [hk2];by_cases e2:k2=0
      case neg=>
       have t2:(k2 != 0)=true:=(by simpa using e2);have hE2:E=k2:=by
        rw [show Zpx x=(if (Yv x.p).2≠0 then (Yv x.p).2 else if X0 x.p = [] then 0 else 1) from rfl] at hG;rw [hk2,if_pos e2,if_pos e2] at hG;exact hG.symm
       subst hE2;clear hG hk2 e2;go_wp2_with fail
       go_ret
       exact ⟨rfl,HB4.out⟩
      have t2:(k2 != 0)=false:=(by simpa using e2);have c4:=B4.out.cell;have l4:=B4.out.lt;have HGx:=Ld hG;have HK2:Hid ((Yv x.p).2=0):=(by show _=_;rw [hk2,e2]);clear hG hk2;subst e2;go_wp2_with fail
      refine (HS.out _ HB4.out HK1.out).mono ?_;rintro r w5 ⟨A5,c5,rfl,hl5,hm5,hs5,hb5⟩;have HB5:=Ld (HB4.out.trans (hb5.mono HB4.out.size));have HM5:=Ld (HM4.out.below hb5);clear hl5 hm5 hs5 hb5 HB4 B4 HM4 HS c4 l4;have hG:=HGx.out;rw [show Zpx x=(if (Yv x.p).2≠0 then (Yv x.p).2 else if X0 x.p = [] then 0 else 1) from rfl] at hG;rw [if_neg (by simp [HK2.out]:¬((Yv x.p).2≠0))] at hG;by_cases hs:X0 x.p = []
      . have e0:(if X0 x.p = [] then (0:Int) else 1)=0:=if_pos hs;rw [e0,if_neg (by simp:¬((0:Int)≠0))] at hG;have HG2:Hid (Zau nmQ Zuh Zpx (ps.drop (k+1)) ((ps.take (k+1)).map nmQ)=E):=(by show _=_;rw [HT.out];exact hG);have hz:(X0 x.p).length=0:=(by rw [hs];rfl);rw [hz];clear hG hs hz HGx;go_wp2_with fail
        exact ⟨⟨k+1,by go_num,by omega,HM5,HG2,HB5.out⟩,by simp [intOf];omega⟩
      . have e0:(if X0 x.p = [] then (0:Int) else 1)=1:=if_neg hs;rw [e0,if_pos (by simp:(1:Int)≠0)] at hG;have hpos:0 < (X0 x.p).length:=List.length_pos_iff.2 hs;subst hG;clear hs HGx;generalize (X0 x.p).length=ns at hpos;have hpos':(0:Int) < (ns:Int):=(by omega);go_wp2_with fail
        go_ret
        exact ⟨rfl,HB5.out⟩
    . have HE2:Hid (E=0):=by
       show _=_;have:=HG.out;rw [List.drop_eq_nil_of_le (by omega)] at this;exact this.symm
      have:=HE2.out;subst this;go_wp2_with fail
      go_ret
      exact ⟨rfl,hbr⟩
def Jr (w:World)(r:Ending)(w':World)(b:Bool)(by_ wr:List (List UInt8))(k:Int):Prop:=
 ∃A1 c1 A2 c2,r=.returned (.tuple #[.agg #[.bool b,.slice A1 by_.length c1,.slice A2 wr.length c2],Yh k])/\by_.length<=c1/\c1<=9223372036854775807/\wr.length<=c2/\c2<=9223372036854775807 /\
  Y2 w' w'.heap.size A1 by_/\Y2 w' w'.heap.size A2 wr/\RowKit.Below w.heap.size w w'
theorem Jl {w:World}{base:Nat}{e:TypeId}{size:Nat}{v:Value}{n:Nat}{xs:List Value}(h:w.ownsRow base e size v n xs){p:Addr}(hp:v.ownBlock≠some p.block)(u:Value):(w.setCell p u).ownsRow base e size v n xs:=
 h.kept (row:=some p.block) ⟨rfl,rfl,rfl,by simp,λk hk hne=>Below.heap_setCell w p u k (by intro e;apply hne;rw [e])⟩ (.inr hp)
theorem K1 {w w':World}{base:Nat}{e:TypeId}{size:Nat}{v v0:Value}{n:Nat}{xs:List Value}(h:w.ownsRow base e size v n xs)(hg:w.grownBy w' v0.ownBlock)(hd:∀b,v0.ownBlock=some b->v.ownBlock≠some b):w'.ownsRow base e size v n xs:=by
 refine h.kept hg ?_;cases hv:v.ownBlock with
 | none=>exact .inl rfl
 | some b=>
  refine .inr λe=>?_;exact hd b e.symm hv
theorem J2 {w:World}{base c:Nat}{A:Option Addr}{ss:List (List UInt8)}(h:w.ownsRow base 9 1 (.slice A ss.length c) ss.length (ss.map encStr)):Y2 w w.heap.size A ss:=by
 obtain ⟨A',c',e,_,_,s⟩:=J7 h rfl;injection e with e1
 subst e1;exact s
structure Q5 (w:World)(ab:Nat)(pv fv wv:Value)(P F W:List (List UInt8)):Prop where
 p:w.ownsRow (ab+1) 9 1 pv P.length (P.map encStr)
 f:w.ownsRow (ab+1) 9 1 fv F.length (F.map encStr)
 ww:w.ownsRow (ab+1) 9 1 wv W.length (W.map encStr)
 pf:∀b,pv.ownBlock=some b->fv.ownBlock≠some b
 pw:∀b,pv.ownBlock=some b->wv.ownBlock≠some b
 fw:∀b,fv.ownBlock=some b->wv.ownBlock≠some b
 a:Blk w ab 70 #[.bool false,.slice none 0 0,wv]
theorem Q5.later {w w':World}{ab:Nat}{pv fv wv:Value}{P F W:List (List UInt8)}(h:Q5 w ab pv fv wv P F W)(hb:RowKit.Below w.heap.size w w'):Q5 w' ab pv fv wv P F W:=
 ⟨Vq h.p hb,Vq h.f hb,Vq h.ww hb,h.pf,h.pw,h.fw,h.a.below hb h.a.lt⟩
theorem Zz0 {w:World}{v v' u:Value}{base n k:Nat}{e:TypeId}{xs:List Value}(hu:w.ownsRow base e k u n xs)(h:∀b,v.ownBlock=some b->u.ownBlock≠some b)(hl:v'.ownBlock=v.ownBlock\/v'.ownBlock=some w.heap.size):∀b,v'.ownBlock=some b->u.ownBlock≠some b:=λb hb hc=>by
 rcases hl with hl | hl
 . exact h b (hl ▸ hb) hc
 . rw [hl] at hb;injection hb with hb
   have:=(Yf hu hc).2;omega
theorem Zgz {u v:Value}(h:∀b,v.ownBlock=some b->u.ownBlock≠some b):∀b,u.ownBlock=some b->v.ownBlock≠some b:=λb hb hc=>h b hc hb
theorem Q5.growP {w w':World}{ab:Nat}{pv pv' fv wv:Value}{P F W:List (List UInt8)}{s:List UInt8}(h:Q5 w ab pv fv wv P F W)(ho:w'.ownsRow (ab+1) 9 1 pv' (P.length+1) (P.map encStr ++ [encStr s]))(hg:w.grownBy w' pv.ownBlock)
 (hl:pv'.ownBlock=pv.ownBlock\/pv'.ownBlock=some w.heap.size):Q5 w' ab pv' fv wv (P ++ [s]) F W:=
 ⟨by rw [List.length_append,List.map_append];exact ho,K1 h.f hg h.pf,K1 h.ww hg h.pw,Zz0 h.f h.pf hl,Zz0 h.ww h.pw hl,h.fw,h.a.kept hg (λe=>by have:=(Yf h.p e.symm).1;omega)⟩
theorem Q5.growF {w w':World}{ab:Nat}{pv fv fv' wv:Value}{P F W:List (List UInt8)}{s:List UInt8}(h:Q5 w ab pv fv wv P F W)(ho:w'.ownsRow (ab+1) 9 1 fv' (F.length+1) (F.map encStr ++ [encStr s]))(hg:w.grownBy w' fv.ownBlock)
 (hl:fv'.ownBlock=fv.ownBlock\/fv'.ownBlock=some w.heap.size):Q5 w' ab pv fv' wv P (F ++ [s]) W:=
 ⟨K1 h.p hg (Zgz h.pf),by rw [List.length_append,List.map_append];exact ho,K1 h.ww hg h.fw,Zgz (Zz0 h.p (Zgz h.pf) hl),h.pw,Zz0 h.ww h.fw hl,h.a.kept hg (λe=>by have:=(Yf h.f e.symm).1;omega)⟩
theorem Q5.growW {w w':World}{ab:Nat}{pv fv wv wv':Value}{P F W:List (List UInt8)}{s:List UInt8}(h:Q5 w ab pv fv wv P F W)(ho:w'.ownsRow (ab+1) 9 1 wv' (W.length+1) (W.map encStr ++ [encStr s]))(hg:w.grownBy w' wv.ownBlock)
 (hl:wv'.ownBlock=wv.ownBlock\/wv'.ownBlock=some w.heap.size):Blk w' ab 70 #[.bool false,.slice none 0 0,wv]/\Q5 (w'.setCell ⟨ab,2,none⟩ wv') ab pv fv wv' P F (W ++ [s]):=by
 have ha:Blk w' ab 70 #[.bool false,.slice none 0 0,wv]:=h.a.kept hg (λe=>by have:=(Yf h.ww e.symm).1;omega);have far:∀{v:Value} {n:Nat} {xs:List Value},w'.ownsRow (ab+1) 9 1 v n xs->v.ownBlock≠some ab:=λhv e=>by have:=(Yf hv e).1;omega
 have p':=K1 h.p hg (Zgz h.pw);have f':=K1 h.f hg (Zgz h.fw);refine ⟨ha,⟨Jl p' (far p') _,Jl f' (far f') _,?_,h.pf,Zgz (Zz0 h.p (Zgz h.pw) hl),Zgz (Zz0 h.f (Zgz h.fw) hl),ha.set 2 wv'⟩⟩;rw [List.length_append,List.map_append];exact Jl ho (far ho) _
theorem Zfr {α:Type}{f:α->Bool}{nm:α->List UInt8}{ps:List α}{k:Nat}{y:α}(h:ps[k]? = some y):((ps.take (k+1)).filter f).map nm=((ps.take k).filter f).map nm++(if f y=true then [nm y] else []):=by
 rw [List.take_add_one,h,List.filter_append,List.map_append];congr 1
 show (List.filter f [y]).map nm=_;by_cases e:f y=true
 . rw [if_pos e];simp [e]
 . rw [if_neg e];simp [e]
theorem Zi8 {α:Type}{f:α->Bool}{nm:α->List UInt8}{ps:List α}{k:Nat}:(((ps.take k).filter f).map nm).length<=k:=by
 rw [List.length_map];exact Nat.le_trans (List.length_filter_le _ _) (List.length_take_le _ _)
theorem Zve (es:List En)(q:Rq)(y:PoM):vtQ es q y=1\/vtQ es q y=0\/vtQ es q y = -1:=by
 unfold vtQ;split
 . split
   . split
     . exact .inl rfl
     . exact .inr (.inl rfl)
   . exact .inr (.inr rfl)
 . exact .inr (.inr rfl)
theorem Zdt (k:Int):Yh k=.nilIface\/Yh k=.iface 96 (.int .i64 k):=by
 unfold Yh;split
 . exact .inl rfl
 . exact .inr rfl
def RqS (b:Nat)(x:Aq)(w W:World):Prop:=
 W.cell? ⟨b,0,none⟩=some (.string x.q.who.ty)/\W.cell? ⟨b,1,none⟩=some (.string x.q.who.id)/\W.cell? ⟨b,2,none⟩=some (.string x.q.act.ty)/\W.cell? ⟨b,3,none⟩=some (.string x.q.act.id)/\W.cell? ⟨b,4,none⟩=some (.string x.q.what.ty)/\W.cell? ⟨b,5,none⟩=some (.string x.q.what.id) /\
  W.cell? ⟨b,6,none⟩=some (.slice x.qa x.q.ctx.length x.qc)/\RowKit.Below w.heap.size w W
abbrev rqC (x:Aq):Array Value:=#[.string x.q.who.ty,.string x.q.who.id,.string x.q.act.ty,.string x.q.act.id,.string x.q.what.ty,.string x.q.what.id,.slice x.qa x.q.ctx.length x.qc]
theorem RqS.of {b:Nat}{x:Aq}{w W:World}{T:TypeId}(h:Blk W b T (rqC x))(hb:RowKit.Below w.heap.size w W):RqS b x w W:=
 ⟨h.cell 0,h.cell 1,h.cell 2,h.cell 3,h.cell 4,h.cell 5,h.cell 6,hb⟩
end Go.Proofs.YtpheiojmcafolaaGreatDoor
