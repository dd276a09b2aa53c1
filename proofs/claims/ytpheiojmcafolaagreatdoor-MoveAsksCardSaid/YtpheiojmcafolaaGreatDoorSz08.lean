/-
 THE WALKS: the deferred closure of val.Check. THE WALKS: val.Check: for any nodes: what is wrong with a value.
-/
import Derived.Test.YtpheiojmcafolaaGreatDoorSz07
set_option maxRecDepth 100000
set_option maxHeartbeats 25600000
namespace Go.Proofs.YtpheiojmcafolaaGreatDoor
open Go.RowKit
theorem Zl6 (w:World):(Instr.typeAssert (.iface 157 (.agg #[])) 20 157 true).run Tryz.prog w=.ok (.tuple #[.agg #[],.bool true]) w:=by kernel_rfl
theorem Zpd (p:Addr)(w:World) :
 CallsD Tryz.prog 95 #[.pointer (some p)] .returning w λe u' w'=>e=.returned (.tuple #[])/\u'=.returning/\w'=w:=by
 refine callsD_of_wpS Tryz.func95 rfl λc₀ cs hu=>?_;apply wpS_seq;apply wpS_region;simp [wpOpsS,go_sem,recoverD,hu,Tryz.ntmps95,Exit.thenS];refine wpS_of_wp ?_;simp only [Array.replicate_succ,Array.replicate_zero,List.push_toArray,List.nil_append,List.cons_append];go_wp2
 cases c₀
 simp_all [bodyPostS,results,Tryz.results95]
theorem Zwh (p:Addr)(x:Value)(older:List PanicEntry)(w:World)(hc:w.cell? p=some x)(hz:w.frozen? p=false) :
 CallsD Tryz.prog 95 #[.pointer (some p)] (.panicking ({ v:=.iface 157 (.agg #[]),recovered:=false } :: older)) w λe u' w'=>
  e=.returned (.tuple #[])/\u'=.panicking ({ v:=.iface 157 (.agg #[]),recovered:=true } :: older)/\∃o,w'=(w.alloc o).setCell p (.iface 96 (.int .i64 1)):=by
 have hta:=Zl6;have hcw:(w.alloc (.cells #[] 157)).cell? p=some x:=(World.cell?_alloc_lt w _ _ (World.block_lt_of_cell? w p hc)).trans hc;have hzw:(w.alloc (.cells #[] 157)).frozen? p=false:=(((Below.refl w.heap.size w).alloc (nL _) _).frozen (World.block_lt_of_cell? w p hc)).trans hz;refine callsD_of_wpS Tryz.func95 rfl λc₀ cs hu=>?_;apply wpS_seq;apply wpS_region;simp [wpOpsS,go_sem,recoverD,hu,Tryz.ntmps95,Exit.thenS];refine wpS_of_wp ?_;simp only [Array.replicate_succ,Array.replicate_zero,List.push_toArray,List.nil_append,List.cons_append];go_wp2
 simp [bodyPostS,results,Tryz.results95];exact ⟨_,rfl⟩
theorem Zpv (e:List Nd):∀f i,Zbw e f i:=by
 intro f;induction f using Nat.strongRecOn with
 | _ f ih=>
  intro i;by_cases hi:e.length<=i
  . exact Zyr e f i hi
  . have hil:i < e.length:=(by omega);cases f with
    | zero=>intro w rb A c hf;omega
    | succ f=>
     have hx:e[i]? = some e[i]:=gE hil;cases hsh:Zj e[i] with
     | false=>exact Zxp e f i _ hx hsh
     | true=>
      by_cases h5:e[i].op=5
      . exact Zyy e f i _ hx hsh h5 (λf' hf i'=>ih f' (by omega) i')
      . by_cases h6:e[i].op=6
        . exact Zys e f i _ hx hsh h6 (λf' hf i'=>ih f' (by omega) i')
        . by_cases h7:e[i].op=7
          . exact Zzn e f i _ hx hsh h7
          . exact Zuj e f i _ hx hsh h5 h6 h7
theorem Zjv (e:List Nd)(A:Option Addr)(c:Nat)(w:World)(h:200 < e.length)(hm:e.length<=9223372036854775807) :
 Calls Tryz.prog 63 #[.slice A e.length c] w λr w'=>r=.returned (Yh (Zb e))/\Below w.heap.size w w':=by
 have hv:Zb e=4:=by simp [Zb,h]
 rw [hv];clear hv;have hmf:∀(fn:Fn) (first cap:Array Value) (w:World),(Instr.makeFunc fn first cap).run Tryz.prog w=.ok (.func fn first cap) w:=λ_ _ _ _=>rfl;go_enter_defers Tryz.func63,Tryz.ntmps63
 go_wp2
 simp [bodyPostD,Leaves,results,Tryz.results63,go_sem,Yh];(repeat (first | assumption | exact bR | apply bD | apply Za | refine bA ?_ _))
theorem Zl0 (e:List Nd)(A:Option Addr)(c:Nat)(w:World)(h:¬200 < e.length)(hc:e.length<=c)(hcm:c<=9223372036854775807)(hok:Y0 e)(hsl:Ye w w.heap.size A e) :
 Calls Tryz.prog 63 #[.slice A e.length c] w λr w'=>r=.returned (Yh (Zb e))/\Below w.heap.size w w':=by
 have hmf:∀(fn:Fn) (first cap:Array Value) (w:World),(Instr.makeFunc fn first cap).run Tryz.prog w=.ok (.func fn first cap) w:=λ_ _ _ _=>rfl;have HB:Hid (Blk ((w.alloc (.cells #[.nilIface] 27)).alloc (.cells #[.slice A e.length c,.int .i64 0] 160)) (w.heap.size+1) 160 (rdr A e.length c 0)):=by
  have:=Blk.new (w.alloc (.cells #[.nilIface] 27)) 160 #[.slice A e.length c,.int .i64 0];rwa [World.size_alloc] at this
 have hcE:((w.alloc (.cells #[.nilIface] 27)).alloc (.cells #[.slice A e.length c,.int .i64 0] 160)).cell? ⟨w.heap.size,0,none⟩=some .nilIface:=by simp [go_sem]
 have hzE:((w.alloc (.cells #[.nilIface] 27)).alloc (.cells #[.slice A e.length c,.int .i64 0] 160)).frozen? ⟨w.heap.size,0,none⟩=false:=by simp [go_sem]
 have HC:=Ld hcE;have HZ:=Ld hzE;have hS:Ye ((w.alloc (.cells #[.nilIface] 27)).alloc (.cells #[.slice A e.length c,.int .i64 0] 160)) (w.heap.size+1) A e:=by
  refine (hsl.below ?_).more (by omega);(repeat (first | assumption | exact bR | apply bD | apply Za | refine bA ?_ _))
 have HS:=Ld hS;have hbw:Below w.heap.size w ((w.alloc (.cells #[.nilIface] 27)).alloc (.cells #[.slice A e.length c,.int .i64 0] 160)):=by (repeat (first | assumption | exact bR | apply bD | apply Za | refine bA ?_ _))
 have hsz:w.heap.size+2<=((w.alloc (.cells #[.nilIface] 27)).alloc (.cells #[.slice A e.length c,.int .i64 0] 160)).heap.size:=by simp
 clear hcE hzE hS hsl;go_enter_defers Tryz.func63,Tryz.ntmps63
 go_wp2_with fail
 generalize ((w.alloc (.cells #[.nilIface] 27)).alloc (.cells #[.slice A e.length c,.int .i64 0] 160))=w1 at HB HC HZ HS hbw hsz ⊢;have hpo:=Zpv e (2*e.length) 0 w1 (w.heap.size+1) A c (by omega) (by omega) hc hcm hok HB.out HS.out;have HP:=Ld hpo;clear hpo;cases hv:vGo e (2*e.length) .one 0 with
 | none=>
  have HV:Hid (Zb e=1):=by show _=_;simp [Zb,h,hv]
  have HPN:=Ld (HP.out.2 hv);clear hv HP;refine HPN.out.mono ?_;rintro r w2 ⟨rfl,ho2⟩;have hc2:w2.cell? ⟨w.heap.size,0,none⟩=some .nilIface:=(ho2.cell (p:=⟨w.heap.size,0,none⟩) (by simp;omega) (by simp)).trans HC.out;have hz2:w2.frozen? ⟨w.heap.size,0,none⟩=false:=(ho2.frozen (p:=⟨w.heap.size,0,none⟩) (by simp;omega) (by simp)).trans HZ.out;have hb2:Below w.heap.size w w2:=hbw.trans (ho2.below (by omega) (by omega));go_wp2_with fail
  refine leaves_cons (f:=95) (args:=#[.pointer (some ⟨w.heap.size,0,none⟩)]) (by simp) (by simp [go_sem]) ?_;refine (Zwh ⟨w.heap.size,0,none⟩ _ [] _ hc2 hz2).mono ?_;rintro e' u' w'' ⟨rfl,rfl,o,rfl⟩;have hcell:((w2.alloc o).setCell ⟨w.heap.size,0,none⟩ (.iface 96 (.int .i64 1))).cell? ⟨w.heap.size,0,none⟩=some (.iface 96 (.int .i64 1)):=World.cell?_setCell_same _ _ _ ((World.cell?_alloc_lt w2 _ _ (World.block_lt_of_cell? w2 _ hc2)).trans hc2);simp [Leaves,settle,results,Tryz.results63,go_sem,hcell];rw [HV.out];exact ⟨rfl,(hb2.alloc hb2.size _).setCell (nL _) _⟩
 | some j=>
  obtain ⟨hjl,_,_⟩:=X1 e _ .one 0 j hv;have hjl:=hjl (by omega);have HPS:=Ld (HP.out.1 j hv);have HV:Hid (Zb e=if j=e.length then 0 else 1):=by show _=_;simp [Zb,h,hv]
  clear hv HP;refine HPS.out.mono ?_;rintro r w2 ⟨A',c',rfl,hs2,hb2,ho2⟩;have hc2:w2.cell? ⟨w.heap.size,0,none⟩=some .nilIface:=(ho2.cell (p:=⟨w.heap.size,0,none⟩) (by simp;omega) (by simp)).trans HC.out;have hz2:w2.frozen? ⟨w.heap.size,0,none⟩=false:=(ho2.frozen (p:=⟨w.heap.size,0,none⟩) (by simp;omega) (by simp)).trans HZ.out;have hbe2:Below w.heap.size w w2:=hbw.trans (ho2.below (by omega) (by omega));have k1:w2.cell? ⟨w.heap.size+1,1,none⟩=some (.int .i64 j):=hb2.cell 1;clear hs2;by_cases hje:j < e.length
  . go_wp2_with fail
    refine leaves_cons (f:=95) (args:=#[.pointer (some ⟨w.heap.size,0,none⟩)]) (by simp) (by simp [go_sem]) ?_;refine (Zpd ⟨w.heap.size,0,none⟩ _).mono ?_;rintro e' u' w'' ⟨rfl,rfl,rfl⟩;simp [Leaves,settle,results,Tryz.results63,go_sem,hc2];rw [HV.out,if_neg (by omega)];exact ⟨rfl,hbe2.setCell (nL _) _⟩
  . go_wp2_with fail
    refine leaves_cons (f:=95) (args:=#[.pointer (some ⟨w.heap.size,0,none⟩)]) (by simp) (by simp [go_sem]) ?_;refine (Zpd ⟨w.heap.size,0,none⟩ _).mono ?_;rintro e' u' w'' ⟨rfl,rfl,rfl⟩;simp [Leaves,settle,results,Tryz.results63,go_sem,hc2];rw [HV.out,if_pos (by omega)];exact ⟨rfl,hbe2.setCell (nL _) _⟩
theorem Ve (e:List Nd)(A:Option Addr)(c:Nat)(w:World)(hc:e.length<=c)(hcm:c<=9223372036854775807)(hok:Y0 e)(hsl:Ye w w.heap.size A e) :
 Calls Tryz.prog 63 #[.slice A e.length c] w λr w'=>r=.returned (Yh (Zb e))/\Below w.heap.size w w':=by
 by_cases h:200 < e.length
 . exact Zjv e A c w h (by omega)
 . exact Zl0 e A c w h hc hcm hok hsl
theorem Zql (x:Nd)(b:Nat)(w:World)(hx:Jj w b 0 x)(hb:b < w.heap.size)(hs:x.s.size<=140737488351232)(ht:x.t.size<=140737488351232) :
 Calls Tryz.prog 63 #[.slice (some ⟨b,0,none⟩) 1 1] w λr w'=>r=.returned (Yh (Zb [x]))/\Below w.heap.size w w':=
 Ve [x] (some ⟨b,0,none⟩) 1 w (by simp) (by omega) (λy hy=>by simp at hy;subst hy;exact ⟨hs,ht⟩) (λ_=>⟨b,0,rfl,hb,λi y hy=>by
  match i,hy with
  | 0,hy=>simp at hy;subst hy;exact hx⟩)
theorem Zds (op n:Int)(s t:ByteArray)(w:World) :
 Calls Tryz.prog 106 #[.agg #[.int .i64 op,.int .i64 n,.string s,.string t]] w λe w'=>e=.returned (.int .i64 (Zl ⟨op,n,s,t⟩))/\Below w.heap.size w w':=by
 go_enter Tryz.func106,Tryz.ntmps106
 go_wp2
 all_goals
  go_ret
  refine ⟨Xn ?_,(Below.refl _ _).alloc (nL _) _⟩;simp only [beq_iff_eq,beq_eq_false_iff_ne] at *;simp [Zl, *]
theorem Zdd (s:ByteArray)(w:World) :
 Calls Tryz.prog 168 #[.string s] w λe w'=>e=.returned (.bool (Kk s.toList))/\w=w':=by
 go_enter Tryz.func168,Tryz.ntmps168
 go_wp2
 all_goals
  go_ret
  refine ⟨Vj ?_,rfl⟩;first | (simp [Kk, *];done) | simp_all
theorem Zki (s:ByteArray)(w:World)(hs:s.size<=140737488351232) :
 Calls Tryz.prog 139 #[.string s] w λe w'=>e=.returned (.bool (Xb s.toList))/\Below w.heap.size w w':=by
 by_cases h0:0 < s.size
 . have h0':s.toList.isEmpty=false:=Zks h0;obtain ⟨l,hl0⟩:=Zb7 h0;have HL:=Ld hl0;have hx:=Zgs s;have HX:Hid ((s.extract 1 s.size).toList=l):=by rw [hl0] at hx;exact hx
   have hxs:=Zmn s;have HXS:=Ld hxs;clear hl0 hx hxs;by_cases hq:s[0]=63
   . have hqi:((s[0].toNat:Int)==63)=true:=(by rw [hq];rfl);go_enter Tryz.func139,Tryz.ntmps139
     go_wp2_with (go_at_call 65;refine (Yw _ _ (by have:=HXS.out;omega)).mono ?_;rintro e w1 ⟨rfl,hb1⟩)
     go_ret
     exact ⟨Vj (by rw [HX.out,HL.out];simp [Xb,hq]),hb1⟩
   . have hqi:((s[0].toNat:Int)==63)=false:=by
      rw [beq_eq_false_iff_ne];intro hc;apply hq;apply UInt8.toNat_inj.1;simp;omega
     have HV:Hid (Xb s.toList=(Zf s.toList==0 && !Kk s.toList)):=(by show _=_;rw [HL.out];simp [Xb,hq]);go_enter Tryz.func139,Tryz.ntmps139
     go_wp2_with (first | (go_at_call 65;refine (Yw s _ hs).mono ?_;rintro e w1 ⟨rfl,hb1⟩) | (go_at_call 168;refine (Zdd s _).mono ?_;rintro e w2 ⟨rfl,rfl⟩))
     all_goals
      go_ret
      refine ⟨Vj ?_,hb1⟩;rw [HV.out];simp [*]
 . have h0':=Zii h0;have h0'':s.toList.isEmpty=true:=by rw [h0'];rfl
   have HL:=Ld h0';clear h0';have HV:Hid (Xb s.toList=(Zf s.toList==0 && !Kk s.toList)):=by show _=_;rw [HL.out];rfl
   go_enter Tryz.func139,Tryz.ntmps139
   go_wp2_with (first | (go_at_call 65;refine (Yw s _ hs).mono ?_;rintro e w1 ⟨rfl,hb1⟩) | (go_at_call 168;refine (Zdd s _).mono ?_;rintro e w2 ⟨rfl,rfl⟩))
   all_goals
    go_ret
    refine ⟨Vj ?_,hb1⟩;rw [HV.out];simp [*]
theorem Qq (op n:Int)(s t:ByteArray)(w:World)(hs:s.size<=140737488351232)(ht:t.size<=140737488351232) :
 Calls Tryz.prog 105 #[.agg #[.int .i64 op,.int .i64 n,.string s,.string t]] w λe w'=>e=.returned (.bool (Zx ⟨op,n,s,t⟩))/\Below w.heap.size w w':=by
 have hx:Jj ((w.alloc (.cells #[.int .i64 op,.int .i64 n,.string s,.string t] 37)).alloc (.cells #[.int .i64 op,.int .i64 n,.string s,.string t] 37)) (w.heap.size+1) 0 ⟨op,n,s,t⟩:=by
  constructor <;> simp [go_sem]
 have HX:=Ld hx;clear hx;go_enter Tryz.func105,Tryz.ntmps105
 go_wp2_with (first
  | (go_at_call 65;refine (Yw _ _ hs).mono ?_;rintro e w1 ⟨rfl,hb1⟩)
  | (go_at_call 125;refine (Ju _ _ hs).mono ?_;rintro e w1 ⟨rfl,hb1⟩)
  | (go_at_call 139;refine (Zki _ _ hs).mono ?_;rintro e w1 ⟨rfl,hb1⟩)
  | (go_at_call 63;refine (Zql ⟨op,n,s,t⟩ _ _ HX.out (by simp) hs ht).mono ?_;rintro e w1 ⟨rfl,hb1⟩)
  | (go_at_call 106;refine (Zds _ _ _ _ _).mono ?_;rintro e w1 ⟨rfl,hb1⟩;obtain ⟨hcc,hff⟩:=Xi hb1))
 all_goals
  go_ret
  refine ⟨Vj ?_,?_⟩
  . simp only [beq_iff_eq,beq_eq_false_iff_ne] at *;clear HX;simp [Zx, *];all_goals first | omega | (intros;omega) | (intros;subst_vars;assumption)
  . first
     | exact (Below.refl _ _).alloc (nL _) _
     | exact ((Below.refl _ _).alloc (nL _) _).trans (hb1.mono (by simp))
     | exact (((Below.refl _ _).alloc (nL _) _).alloc (by simp) _).trans (hb1.mono (by simp;omega))
def Zw8 (e:List Nd)(f i:Nat):Prop:=∀(w:World) (A:Option Addr) (c:Nat) (fld:Bool),2*(e.length - i)<=f->e.length<=c->c<=9223372036854775807->i<=9223372036854775807->Y0 e->Ye w w.heap.size A e ->
 Calls Tryz.prog 84 #[.slice A e.length c,.int .i64 i,.bool fld] w λr w'=>r=.returned (.int .i64 (Z5l (bGo e f (.one fld) i)))/\Below w.heap.size w w'
set_option maxRecDepth 100000 in
theorem Z1k (e:List Nd)(f i:Nat)(h:e.length<=i):Zw8 e f i:=by
 intro w A c fld hf hc hcm him hok hsl;have HV:Hid (bGo e f (.one fld) i=none):=by
  show _=_;cases f <;> simp [bGo,List.getElem?_eq_none h]
 go_enter Tryz.func84,Tryz.ntmps84
 go_wp2_with fail
 go_ret
 exact ⟨Xn (by rw [HV.out];rfl),Below.refl _ _⟩
set_option maxRecDepth 100000 in
theorem Z02 (e:List Nd)(f i:Nat)(x:Nd)(hx:e[i]? = some x)(hsh:Zx x=false):Zw8 e (f+1) i:=by
 intro w A c fld hf hc hcm him hok hsl;have hil:i < e.length:=(List.getElem?_eq_some_iff.1 hx).1;obtain ⟨b,o,rfl,hb,hcs⟩:=hsl.at_ hil;obtain ⟨d0,d1,d2,d3⟩:=hcs i x hx;obtain ⟨hxs,hxt⟩:=hok x (mG hx);have HV:Hid (bGo e (f+1) (.one fld) i=none):=by show _=_;simp [bGo,hx,hsh]
 clear hcs hok hsl hx;go_enter Tryz.func84,Tryz.ntmps84
 go_wp2_with (go_at_call 105;refine (Qq x.op x.n x.s x.t _ hxs hxt).mono ?_;rintro r w1 ⟨rfl,hb1⟩)
 go_ret
 exact ⟨Xn (by rw [HV.out];rfl),hb1⟩
set_option maxRecDepth 100000 in
theorem Z48 (e:List Nd)(f i:Nat)(x:Nd)(hx:e[i]? = some x)(hsh:Zx x=true)(w:World)(A:Option Addr)(c:Nat)(fld:Bool)(hfld:(x.op==7)≠fld)
 (_hf:2*(e.length - i)<=f+1) (_hc:e.length<=c) (_hcm:c<=9223372036854775807) (_him:i<=9223372036854775807) (hok:Y0 e) (hsl:Ye w w.heap.size A e) :
 Calls Tryz.prog 84 #[.slice A e.length c,.int .i64 i,.bool fld] w λr w'=>r=.returned (.int .i64 (Z5l (bGo e (f+1) (.one fld) i)))/\Below w.heap.size w w':=by
 have hil:i < e.length:=(List.getElem?_eq_some_iff.1 hx).1;obtain ⟨b,o,rfl,hb,hcs⟩:=hsl.at_ hil;obtain ⟨d0,d1,d2,d3⟩:=hcs i x hx;obtain ⟨hxs,hxt⟩:=hok x (mG hx);have HV:Hid (bGo e (f+1) (.one fld) i=none):=by show _=_;simp [bGo,hx,hsh,hfld]
 clear hcs hok hsl hx;cases fld with
 | false=>
  have p7:(x.op==7)=true:=by simpa using hfld
  clear hfld;go_enter Tryz.func84,Tryz.ntmps84
  go_wp2_with (go_at_call 105;refine (Qq x.op x.n x.s x.t _ hxs hxt).mono ?_;rintro r w1 ⟨rfl,hb1⟩;obtain ⟨hcc,hff⟩:=Xi hb1)
  go_ret
  exact ⟨Xn (by rw [HV.out];rfl),hb1⟩
 | true=>
  have p7:(x.op==7)=false:=by simpa using hfld
  clear hfld;go_enter Tryz.func84,Tryz.ntmps84
  go_wp2_with (go_at_call 105;refine (Qq x.op x.n x.s x.t _ hxs hxt).mono ?_;rintro r w1 ⟨rfl,hb1⟩;obtain ⟨hcc,hff⟩:=Xi hb1)
  go_ret
  exact ⟨Xn (by rw [HV.out];rfl),hb1⟩
set_option maxRecDepth 100000 in
theorem Z2u (e:List Nd)(f i:Nat)(x:Nd)(hx:e[i]? = some x)(hsh:Zx x=true)(ih:∀f',f'<=f->∀i',Zw8 e f' i')(w:World)(A:Option Addr)(c:Nat)(fld:Bool)(hfld:(x.op==7)=fld)
 (hf:2*(e.length - i)<=f+1) (hc:e.length<=c) (hcm:c<=9223372036854775807) (him:i<=9223372036854775807) (hok:Y0 e) (hsl:Ye w w.heap.size A e) :
 Calls Tryz.prog 84 #[.slice A e.length c,.int .i64 i,.bool fld] w λr w'=>r=.returned (.int .i64 (Z5l (bGo e (f+1) (.one fld) i)))/\Below w.heap.size w w':=by
 have hil:i < e.length:=(List.getElem?_eq_some_iff.1 hx).1;obtain ⟨b,o,rfl,hb,hcs⟩:=hsl.at_ hil;obtain ⟨d0,d1,d2,d3⟩:=hcs i x hx;obtain ⟨hxs,hxt⟩:=hok x (mG hx);have HV:Hid (bGo e (f+1) (.one fld) i=bGo e f (.more (Zl x).toNat (x.op==6) ⟨#[]⟩) (i+1)):=by show _=_;simp [bGo,hx,hsh,hfld]
 have HS:=Ld hsl;have HOK:=Ld hok;have HI:=Ld ih;have hdl:decide (e.length<=i)=false:=by simp;omega
 have hdi:decide ((i:Int) < 0)=false:=by simp
 obtain ⟨P,hP⟩:=Int.eq_ofNat_of_zero_le (Jt x hsh);have htp:∀W,Calls Tryz.prog 106 #[.agg #[.int .i64 x.op,.int .i64 x.n,.string x.s,.string x.t]] W λe w'=>e=.returned (.int .i64 (P:Int))/\Below W.heap.size W w':=λW=>by
  rw [<-hP];exact Zds x.op x.n x.s x.t W
 have HTP:=Ld htp;have HPP:Hid ((Zl x).toNat=P):=by show _=_;rw [hP];rfl
 clear hcs hok hsl hx ih htp hP;subst hfld;go_enter Tryz.func84,Tryz.ntmps84
 go_wp2_with (first
  | (go_at_call 105;refine (Qq x.op x.n x.s x.t _ hxs hxt).mono ?_;rintro r w1 ⟨rfl,hb1⟩;obtain ⟨hcc,hff⟩:=Xi hb1)
  | (go_at_call 106;refine (HTP.out _).mono ?_;rintro r w2 ⟨rfl,hb2⟩))
 have hz1:=hb1.size;have hz2:w1.heap.size+1<=w2.heap.size:=by have:=hb2.size;simpa using this
 have hw2:Below w.heap.size w w2:=(hb1.alloc hb1.size _).trans (hb2.mono (by simp;omega));have hn2:w2.cell? ⟨w1.heap.size,0,none⟩=some (.int .i64 x.op):=by rw [hb2.cell (p:=⟨w1.heap.size,0,none⟩) (by simp)];simp [go_sem]
 have HN2:=Ld hn2;clear hn2 hcc hff;go_loopw [1,8,43] (λat_ last kk wr=>∃(k c2 fk a:Nat) (l:ByteArray),at_=.int .i64 a/\kk=.int .i64 k/\last=.string l/\k+c2=P/\i+1<=a/\a<=e.length/\k<=a/\fk<=f/\2*(e.length - a)+1<=fk /\
  Hid (bGo e f (.more P (x.op==6) ⟨#[]⟩) (i+1)=bGo e fk (.more c2 (x.op==6) l) a)/\Below w2.heap.size w2 wr)
  (λ_ _ kk _=>P - (intOf kk).toNat)
 case atStart=>exact ⟨0,P,f,i+1,⟨#[]⟩,by go_num,rfl,rfl,by omega,by omega,by omega,by omega,by omega,by omega,rfl,Below.refl _ _⟩
 case round=>
  obtain ⟨k,c2,fk,a,l,rfl,rfl,rfl,hkc,hia,hal,hka,hff2,hfk,HK,hbr⟩:=hrel;have hzr:=hbr.size;have hnr:wr.cell? ⟨w1.heap.size,0,none⟩=some (.int .i64 x.op):=(hbr.cell (p:=⟨w1.heap.size,0,none⟩) (by simp;omega)).trans HN2.out;have hwr:Below w.heap.size w wr:=hw2.trans (hbr.mono (by omega));by_cases hkP:k < P
  . obtain ⟨c3,rfl⟩:∃c3,c2=c3+1:=⟨c2 - 1,by omega⟩;obtain ⟨fk2,rfl⟩:∃fk2,fk=fk2+1:=⟨fk - 1,by omega⟩;by_cases hae:e.length<=a
    . have HVN:Hid (bGo e (f+1) (.one (x.op==7)) i=none):=by
       show _=_;rw [HV.out,HPP.out,HK.out];simp [bGo,List.getElem?_eq_none hae]
      go_wp2_with fail
      go_ret
      exact ⟨Xn (by rw [HVN.out];rfl),hwr⟩
    . have hal2:a < e.length:=(by omega);obtain ⟨m,hm⟩:∃m,e[a]? = some m:=⟨_,gE hal2⟩;have hcs:∀i x,e[i]? = some x->Jj wr b (o+i*4) x:=by
       obtain ⟨b',o',h1,_,h2⟩:=(HS.out.below hwr).at_ hal2;injection h1 with h1;injection h1 with h1 h3;subst h1 h3;exact h2
      obtain ⟨m0,m1,m2,m3⟩:=hcs a m hm;have HM:=Ld hm;have hih:=λ(W:World) (r:Bool) (hW:Below wr.heap.size wr W)=>HI.out fk2 (by omega) a W (some ⟨b,o,none⟩) c r (by omega) hc hcm (by omega) HOK.out (((HS.out.below hwr).below (hW.mono (by have:=hwr.size;omega))).more (Nat.le_trans hwr.size hW.size));have HIH:=Ld hih;clear hcs hm hih m1 m3 m0;cases hr:(x.op==6) with
      | true=>
       by_cases hlate:Ql l m.s=true
       . have HVN:Hid (bGo e (f+1) (.one (x.op==7)) i=none):=by
          have h1:=HM.out;show _=_;rw [HV.out,HPP.out,HK.out,hr];simp [bGo,h1,hlate]
         unfold Ql at hlate;go_wp2_with fail
         go_ret
         exact ⟨Xn (by rw [HVN.out];rfl),hwr⟩
       . have hlate:Ql l m.s=false:=(by simpa using hlate);have HK2:∀v,bGo e fk2 (.one true) a=v->Hid (bGo e (f+1) (.one (x.op==7)) i=match v with | none=>none | some j=>bGo e fk2 (.more c3 true m.s) j):=by
          intro v hv;have h1:=HM.out;show _=_;rw [HV.out,HPP.out,HK.out,hr];simp [bGo,h1,hv,hlate];cases v <;> rfl
         have HK3:=Ld HK2;clear HK2;unfold Ql at hlate;cases hv:bGo e fk2 (.one true) a with
         | none=>
          have HC:∀W,Below wr.heap.size wr W->Calls Tryz.prog 84 #[.slice (some ⟨b,o,none⟩) e.length c,.int .i64 a,.bool true] W λr w'=>r=.returned (.int .i64 (-1))/\Below W.heap.size W w':=λW hW=>by
           have:=HIH.out W true hW;rw [hv] at this;exact this
          have HC2:=Ld HC;have HVN:=HK3.out none hv;clear HC hv;go_wp2_with (go_at_call 84;refine (HC2.out _ (Below.refl _ _)).mono ?_;rintro r w3 ⟨rfl,hb3⟩)
          go_ret
          exact ⟨Xn (by rw [HVN.out];rfl),hwr.trans (hb3.mono hwr.size)⟩
         | some j=>
          obtain ⟨hjl,_,haj⟩:=Ka e fk2 (.one true) a j hv;have hjl:=hjl hal;have haj:=haj _ rfl;have HC:∀W,Below wr.heap.size wr W->Calls Tryz.prog 84 #[.slice (some ⟨b,o,none⟩) e.length c,.int .i64 a,.bool true] W λr w'=>r=.returned (.int .i64 (j:Int))/\Below W.heap.size W w':=λW hW=>by
           have:=HIH.out W true hW;rw [hv] at this;exact this
          have HC2:=Ld HC;have HKN:Hid (bGo e f (.more P true ⟨#[]⟩) (i+1)=bGo e fk2 (.more c3 true m.s) j):=by
           have:=HK3.out _ hv;have h3:=HV.out;rw [HPP.out,hr] at h3;exact h3.symm.trans this
          clear HC hv;go_wp2_with (go_at_call 84;refine (HC2.out _ (Below.refl _ _)).mono ?_;rintro r w3 ⟨rfl,hb3⟩)
          go_roundw
          case rel=>exact ⟨k+1,c3,fk2,j,m.s,rfl,by go_num,rfl,by omega,by omega,by omega,by omega,by omega,by omega,HKN,hbr.trans (hb3.mono hbr.size)⟩
          case measure=>simp [intOf];omega
      | false=>
       have HK2:∀v,bGo e fk2 (.one false) a=v->Hid (bGo e (f+1) (.one (x.op==7)) i=match v with | none=>none | some j=>bGo e fk2 (.more c3 false l) j):=by
        intro v hv;have h1:=HM.out;show _=_;rw [HV.out,HPP.out,HK.out,hr];simp [bGo,h1,hv];cases v <;> rfl
       have HK3:=Ld HK2;clear HK2;cases hv:bGo e fk2 (.one false) a with
       | none=>
        have HC:∀W,Below wr.heap.size wr W->Calls Tryz.prog 84 #[.slice (some ⟨b,o,none⟩) e.length c,.int .i64 a,.bool false] W λr w'=>r=.returned (.int .i64 (-1))/\Below W.heap.size W w':=λW hW=>by
         have:=HIH.out W false hW;rw [hv] at this;exact this
        have HC2:=Ld HC;have HVN:=HK3.out none hv;clear HC hv;go_wp2_with (go_at_call 84;refine (HC2.out _ (Below.refl _ _)).mono ?_;rintro r w3 ⟨rfl,hb3⟩)
        go_ret
        exact ⟨Xn (by rw [HVN.out];rfl),hwr.trans (hb3.mono hwr.size)⟩
       | some j=>
        obtain ⟨hjl,_,haj⟩:=Ka e fk2 (.one false) a j hv;have hjl:=hjl hal;have haj:=haj _ rfl;have HC:∀W,Below wr.heap.size wr W->Calls Tryz.prog 84 #[.slice (some ⟨b,o,none⟩) e.length c,.int .i64 a,.bool false] W λr w'=>r=.returned (.int .i64 (j:Int))/\Below W.heap.size W w':=λW hW=>by
         have:=HIH.out W false hW;rw [hv] at this;exact this
        have HC2:=Ld HC;have HKN:Hid (bGo e f (.more P false ⟨#[]⟩) (i+1)=bGo e fk2 (.more c3 false l) j):=by
         have:=HK3.out _ hv;have h3:=HV.out;rw [HPP.out,hr] at h3;exact h3.symm.trans this
        clear HC hv;go_wp2_with (go_at_call 84;refine (HC2.out _ (Below.refl _ _)).mono ?_;rintro r w3 ⟨rfl,hb3⟩)
        go_roundw
        case rel=>exact ⟨k+1,c3,fk2,j,l,rfl,by go_num,rfl,by omega,by omega,by omega,by omega,by omega,by omega,HKN,hbr.trans (hb3.mono hbr.size)⟩
        case measure=>simp [intOf];omega
  . obtain rfl:c2=0:=(by omega);have HVS:Hid (bGo e (f+1) (.one (x.op==7)) i=some a):=by
     show _=_;rw [HV.out,HPP.out,HK.out];cases fk <;> simp [bGo]
    go_wp2_with fail
    go_ret
    exact ⟨Xn (by rw [HVS.out];rfl),hwr⟩
theorem Z1g (e:List Nd):∀f i,Zw8 e f i:=by
 intro f;induction f using Nat.strongRecOn with
 | _ f ih=>
  intro i;by_cases hi:e.length<=i
  . exact Z1k e f i hi
  . have hil:i < e.length:=(by omega);cases f with
    | zero=>intro w A c fld hf;omega
    | succ f=>
     have hx:e[i]? = some e[i]:=gE hil;cases hsh:Zx e[i] with
     | false=>exact Z02 e f i _ hx hsh
     | true=>
      intro w A c fld hf hc hcm him hok hsl;by_cases h7:(e[i].op==7)=fld
      . exact Z2u e f i _ hx hsh (λf' hf i'=>ih f' (by omega) i') w A c fld h7 hf hc hcm him hok hsl
      . exact Z48 e f i _ hx hsh w A c fld h7 hf hc hcm him hok hsl
theorem Ux (e:List Nd)(A:Option Addr)(c:Nat)(w:World)(hc:e.length<=c)(hcm:c<=9223372036854775807)(hok:Y0 e)(hsl:Ye w w.heap.size A e) :
 Calls Tryz.prog 49 #[.slice A e.length c] w λr w'=>r=.returned (Yh (Zo e))/\Below w.heap.size w w':=by
 by_cases h:200 < e.length
 . have HV:Hid (Zo e=4):=by show _=_;simp [Zo,h]
   clear hok hsl;go_enter Tryz.func49,Tryz.ntmps49
   go_wp2_with fail
   go_ret
   exact ⟨Ue (by rw [HV.out];rfl),Below.refl _ _⟩
 . have hb:=Z1g e (2*e.length) 0 w A c false (by omega) hc hcm (by omega) hok hsl;cases hv:bGo e (2*e.length) (.one false) 0 with
   | none=>
    have HV:Hid (Zo e=1):=(by show _=_;simp [Zo,h,hv]);rw [hv] at hb;have HB:Hid (Calls Tryz.prog 84 #[.slice A e.length c,.int .i64 0,.bool false] w λr w'=>r=.returned (.int .i64 (-1))/\Below w.heap.size w w'):=hb;clear hv hb hok hsl;have hne:((-1:Int) != (e.length:Int))=true:=(by rw [bne_iff_ne];omega);go_enter Tryz.func49,Tryz.ntmps49
    go_wp2_with (go_at_call 84;refine HB.out.mono ?_;rintro r w1 ⟨rfl,hb1⟩)
    go_ret
    exact ⟨Ue (by rw [HV.out];rfl),hb1⟩
   | some j=>
    have HV:Hid (Zo e=if j=e.length then 0 else 1):=(by show _=_;simp [Zo,h,hv]);rw [hv] at hb;have HB:Hid (Calls Tryz.prog 84 #[.slice A e.length c,.int .i64 0,.bool false] w λr w'=>r=.returned (.int .i64 (j:Int))/\Below w.heap.size w w'):=hb;clear hv hb hok hsl;by_cases hj:j=e.length
    . have hne:((j:Int) != (e.length:Int))=false:=(by rw [hj];simp);have HJ:=Ld hj;clear hj;go_enter Tryz.func49,Tryz.ntmps49
      go_wp2_with (go_at_call 84;refine HB.out.mono ?_;rintro r w1 ⟨rfl,hb1⟩)
      go_ret
      exact ⟨Ue (by rw [HV.out,if_pos HJ.out];rfl),hb1⟩
    . have hne:((j:Int) != (e.length:Int))=true:=(by rw [bne_iff_ne];omega);go_enter Tryz.func49,Tryz.ntmps49
      go_wp2_with (go_at_call 84;refine HB.out.mono ?_;rintro r w1 ⟨rfl,hb1⟩)
      go_ret
      exact ⟨Ue (by rw [HV.out,if_neg hj];rfl),hb1⟩
def U4 (w:World)(r:Ending)(w':World)(xs:List Nd)(k:Int):Prop:=
 ∃A c,r=.returned (.tuple #[.slice A xs.length c,Yh k])/\xs.length<=c/\c<=9223372036854775807/\Ye w' w'.heap.size A xs/\Below w.heap.size w w'
theorem U4.none {w w':World}{k:Int}(h:Below w.heap.size w w'):U4 w (.returned (.tuple #[.slice none 0 0,Yh k])) w' [] k:=
 ⟨Option.none,0,rfl,nL _,by omega,Ye.nil _ _ _,h⟩
end Go.Proofs.YtpheiojmcafolaaGreatDoor
