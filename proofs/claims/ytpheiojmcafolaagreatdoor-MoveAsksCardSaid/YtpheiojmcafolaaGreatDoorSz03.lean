/-
 THE WALKS: move.Check, move.looks, move.named.
-/
import Derived.Test.YtpheiojmcafolaaGreatDoorSz02
set_option maxRecDepth 100000
set_option maxHeartbeats 25600000
namespace Go.Proofs.YtpheiojmcafolaaGreatDoor
open Go.RowKit
def MvZ (m:Mv):Prop:=m.fr.size<=140737488351232/\m.to_.size<=140737488351232
theorem Zz9 {m:Mv}(h:m.what=1\/m.what=2):Zq m=if Zf m.fr.toList≠0 then Zf m.fr.toList else Zf m.to_.toList:=by
 unfold Zq;rw [if_neg (by omega)]
set_option maxRecDepth 100000 in
theorem Vy (m:Mv)(w:World)(hz:MvZ m) :
 Calls Tryz.prog 26 #[.agg #[.int .i64 m.what,.string m.fr,.string m.to_]] w λe w'=>e=.returned (Yh (Zq m))/\Below w.heap.size w w':=by
 obtain ⟨hz1,hz2⟩:=hz;obtain ⟨k,hk⟩:∃k,Zq m=k:=⟨_,rfl⟩;rw [hk];have HK:=Ld hk;clear hk;by_cases h1:m.what=1
 . have HA:=Ld (Zz9 (.inl h1));have t1:(m.what != 1)=false:=by simp [h1]
   clear h1;by_cases hn:Zf m.fr.toList=0
   . have hne:(Zf m.fr.toList != 0)=false:=(by simp [hn]);have HN:Hid (k=Zf m.to_.toList):=(by show _=_;rw [<-HK.out,HA.out,if_neg (by simp [hn])]);clear hn;go_enter Tryz.func26,Tryz.ntmps26
     go_wp2_with fail
     refine (Yw _ _ hz1).mono ?_;rintro e w1 ⟨rfl,hb1⟩;obtain ⟨hcc,hff⟩:=Xi hb1;have hs1:w.heap.size+1<=w1.heap.size:=(by have:=hb1.size;simpa using this);have hw1:Below w.heap.size w w1:=Below.trans (by (repeat (first | assumption | exact bR | apply bD | apply Za | refine bA ?_ _))) (hb1.mono (by simp));clear hb1;go_wp2_with fail
     refine (Yw _ _ hz2).mono ?_;rintro e w2 ⟨rfl,hb2⟩;have hw2:Below w.heap.size w w2:=hw1.trans (hb2.mono hw1.size);clear hb2 hcc hff;go_wp2_with fail
     go_ret
     rw [HN.out];exact ⟨rfl,by (repeat (first | assumption | exact bR | apply bD | apply Za | refine bA ?_ _))⟩
   . have hne:(Zf m.fr.toList != 0)=true:=(by simp [hn]);have HN:Hid (k=Zf m.fr.toList):=(by show _=_;rw [<-HK.out,HA.out,if_pos hn]);clear hn;go_enter Tryz.func26,Tryz.ntmps26
     go_wp2_with fail
     refine (Yw _ _ hz1).mono ?_;rintro e w1 ⟨rfl,hb1⟩;have hw1:Below w.heap.size w w1:=Below.trans (by (repeat (first | assumption | exact bR | apply bD | apply Za | refine bA ?_ _))) (hb1.mono (by simp));clear hb1;go_wp2_with fail
     go_ret
     rw [HN.out];exact ⟨rfl,by (repeat (first | assumption | exact bR | apply bD | apply Za | refine bA ?_ _))⟩
 . have t1:(m.what != 1)=true:=by simp [h1]
   by_cases h2:m.what=2
   . have HA:=Ld (Zz9 (.inr h2));have t2:(m.what != 2)=false:=(by simp [h2]);clear h1 h2;by_cases hn:Zf m.fr.toList=0
     . have hne:(Zf m.fr.toList != 0)=false:=(by simp [hn]);have HN:Hid (k=Zf m.to_.toList):=(by show _=_;rw [<-HK.out,HA.out,if_neg (by simp [hn])]);clear hn;go_enter Tryz.func26,Tryz.ntmps26
       go_wp2_with fail
       refine (Yw _ _ hz1).mono ?_;rintro e w1 ⟨rfl,hb1⟩;obtain ⟨hcc,hff⟩:=Xi hb1;have hs1:w.heap.size+1<=w1.heap.size:=(by have:=hb1.size;simpa using this);have hw1:Below w.heap.size w w1:=Below.trans (by (repeat (first | assumption | exact bR | apply bD | apply Za | refine bA ?_ _))) (hb1.mono (by simp));clear hb1;go_wp2_with fail
       refine (Yw _ _ hz2).mono ?_;rintro e w2 ⟨rfl,hb2⟩;have hw2:Below w.heap.size w w2:=hw1.trans (hb2.mono hw1.size);clear hb2 hcc hff;go_wp2_with fail
       go_ret
       rw [HN.out];exact ⟨rfl,by (repeat (first | assumption | exact bR | apply bD | apply Za | refine bA ?_ _))⟩
     . have hne:(Zf m.fr.toList != 0)=true:=(by simp [hn]);have HN:Hid (k=Zf m.fr.toList):=(by show _=_;rw [<-HK.out,HA.out,if_pos hn]);clear hn;go_enter Tryz.func26,Tryz.ntmps26
       go_wp2_with fail
       refine (Yw _ _ hz1).mono ?_;rintro e w1 ⟨rfl,hb1⟩;have hw1:Below w.heap.size w w1:=Below.trans (by (repeat (first | assumption | exact bR | apply bD | apply Za | refine bA ?_ _))) (hb1.mono (by simp));clear hb1;go_wp2_with fail
       go_ret
       rw [HN.out];exact ⟨rfl,by (repeat (first | assumption | exact bR | apply bD | apply Za | refine bA ?_ _))⟩
   . have t2:(m.what != 2)=true:=(by simp [h2]);have HN:Hid (k=1):=(by show _=_;rw [<-HK.out];unfold Zq;rw [if_pos ⟨h1,h2⟩]);clear h1 h2;go_enter Tryz.func26,Tryz.ntmps26
     go_wp2_with fail
     go_ret
     rw [HN.out];exact ⟨rfl,by (repeat (first | assumption | exact bR | apply bD | apply Za | refine bA ?_ _))⟩
set_option maxRecDepth 100000 in
theorem Zih (m:Mv)(x:Nd)(w:World) :
 Calls Tryz.prog 68 #[.agg #[.int .i64 m.what,.string m.fr,.string m.to_],.agg #[.int .i64 x.op,.int .i64 x.n,.string x.s,.string x.t]] w λe w'=>e=.returned (.bool (Z7 m x))/\Below w.heap.size w w':=by
 by_cases h7:x.op=7
 . have e7:(x.op==7)=true:=by simp [h7]
   have hv:Z7 m x=(m.what==1):=by simp [Z7,h7]
   rw [hv];have HV:=Ld hv;clear h7 hv;go_enter Tryz.func68,Tryz.ntmps68
   go_wp2_with fail
   all_goals (go_ret;exact ⟨rfl,by (repeat (first | assumption | exact bR | apply bD | apply Za | refine bA ?_ _))⟩)
 . have e7:(x.op==7)=false:=by simp [h7]
   by_cases h21:x.op=21
   . have e21:(x.op==21)=true:=(by simp [h21]);have hv:Z7 m x=(m.what==1):=(by simp [Z7,h21]);rw [hv];clear h7 h21 hv;go_enter Tryz.func68,Tryz.ntmps68
     go_wp2_with fail
     all_goals (go_ret;exact ⟨rfl,by (repeat (first | assumption | exact bR | apply bD | apply Za | refine bA ?_ _))⟩)
   . have e21:(x.op==21)=false:=(by simp [h21]);by_cases h22:x.op=22
     . have e22:(x.op==22)=true:=(by simp [h22]);have hv:Z7 m x=(m.what==1):=(by simp [Z7,h22]);rw [hv];clear h7 h21 h22 hv;go_enter Tryz.func68,Tryz.ntmps68
       go_wp2_with fail
       all_goals (go_ret;exact ⟨rfl,by (repeat (first | assumption | exact bR | apply bD | apply Za | refine bA ?_ _))⟩)
     . have e22:(x.op==22)=false:=(by simp [h22]);by_cases h4:x.op=4
       . have e4:(x.op==4)=true:=(by simp [h4]);have hv:Z7 m x=(m.what==2):=(by simp [Z7,h4]);rw [hv];clear h7 h21 h22 h4 hv;go_enter Tryz.func68,Tryz.ntmps68
         go_wp2_with fail
         all_goals (go_ret;exact ⟨rfl,by (repeat (first | assumption | exact bR | apply bD | apply Za | refine bA ?_ _))⟩)
       . have e4:(x.op==4)=false:=(by simp [h4]);by_cases h24:x.op=24
         . have e24:(x.op==24)=true:=(by simp [h24]);have hv:Z7 m x=(m.what==2):=(by simp [Z7,h24]);rw [hv];clear h7 h21 h22 h4 h24 hv;go_enter Tryz.func68,Tryz.ntmps68
           go_wp2_with fail
           all_goals (go_ret;exact ⟨rfl,by (repeat (first | assumption | exact bR | apply bD | apply Za | refine bA ?_ _))⟩)
         . have e24:(x.op==24)=false:=(by simp [h24]);have hv:Z7 m x=false:=(by simp [Z7,h7,h21,h22,h4,h24]);rw [hv];clear h7 h21 h22 h4 h24 hv;go_enter Tryz.func68,Tryz.ntmps68
           go_wp2_with fail
           all_goals (go_ret;exact ⟨rfl,by (repeat (first | assumption | exact bR | apply bD | apply Za | refine bA ?_ _))⟩)
set_option maxRecDepth 100000 in
theorem Zhs (m:Mv)(x:Nd)(w:World) :
 Calls Tryz.prog 136 #[.agg #[.int .i64 m.what,.string m.fr,.string m.to_],.agg #[.int .i64 x.op,.int .i64 x.n,.string x.s,.string x.t]] w λe w'=>
  e=.returned (.agg #[.int .i64 (ren m x).op,.int .i64 (ren m x).n,.string (ren m x).s,.string (ren m x).t])/\Below w.heap.size w w':=by
 obtain ⟨y,hy⟩:∃y,ren m x=y:=⟨_,rfl⟩;rw [hy];have HY:=Ld hy;clear hy;have HL:=Ld (λW=>Zih m x W);by_cases hl:Z7 m x=true
 . by_cases hs:x.s.toList=m.fr.toList
   . have es:(x.s.toList==m.fr.toList)=true:=(by simp [hs]);have HV:Hid (y=⟨x.op,x.n,m.to_,x.t⟩):=(by show _=_;rw [<-HY.out];unfold ren;rw [if_pos ⟨hl,hs⟩]);clear hs;go_enter Tryz.func136,Tryz.ntmps136
     go_wp2_with fail
     refine (HL.out _).mono ?_;rintro r w1 ⟨rfl,hb1⟩;obtain ⟨hcc,hff⟩:=Xi hb1;have hs1:w.heap.size+1+1+1<=w1.heap.size:=(by have:=hb1.size;simpa using this);have hw1:Below w.heap.size w w1:=Below.trans (by (repeat (first | assumption | exact bR | apply bD | apply Za | refine bA ?_ _))) (hb1.mono (by simp;omega));clear hb1;go_wp2_with fail
     refine bodyPost_ret (v:=.agg #[.int .i64 y.op,.int .i64 y.n,.string y.s,.string y.t]) (by rw [HV.out];simp [results,Tryz.results136,go_sem,hcc]) rfl ⟨rfl,?_⟩;repeat (first | exact hw1 | (refine Below.setCell ?_ (by first | (simp;done) | (simp;omega)) _))
   . have es:(x.s.toList==m.fr.toList)=false:=(by simp [hs]);have HV:Hid (y=x):=(by show _=_;rw [<-HY.out];unfold ren;rw [if_neg (λh=>hs h.2)]);clear hs;go_enter Tryz.func136,Tryz.ntmps136
     go_wp2_with fail
     refine (HL.out _).mono ?_;rintro r w1 ⟨rfl,hb1⟩;obtain ⟨hcc,hff⟩:=Xi hb1;have hs1:w.heap.size+1+1+1<=w1.heap.size:=(by have:=hb1.size;simpa using this);have hw1:Below w.heap.size w w1:=Below.trans (by (repeat (first | assumption | exact bR | apply bD | apply Za | refine bA ?_ _))) (hb1.mono (by simp;omega));clear hb1;go_wp2_with fail
     refine bodyPost_ret (v:=.agg #[.int .i64 y.op,.int .i64 y.n,.string y.s,.string y.t]) (by rw [HV.out];simp [results,Tryz.results136,go_sem,hcc]) rfl ⟨rfl,?_⟩;repeat (first | exact hw1 | (refine Below.setCell ?_ (by first | (simp;done) | (simp;omega)) _))
 . have hl':Z7 m x=false:=by simpa using hl
   have HV:Hid (y=x):=by show _=_;rw [<-HY.out];unfold ren;rw [if_neg (λh=>hl h.1)]
   clear hl;go_enter Tryz.func136,Tryz.ntmps136
   go_wp2_with fail
   refine (HL.out _).mono ?_;rintro r w1 ⟨rfl,hb1⟩;obtain ⟨hcc,hff⟩:=Xi hb1;have hs1:w.heap.size+1+1+1<=w1.heap.size:=by have:=hb1.size;simpa using this
   have hw1:Below w.heap.size w w1:=Below.trans (by (repeat (first | assumption | exact bR | apply bD | apply Za | refine bA ?_ _))) (hb1.mono (by simp;omega));clear hb1;go_wp2_with fail
   refine bodyPost_ret (v:=.agg #[.int .i64 y.op,.int .i64 y.n,.string y.s,.string y.t]) (by rw [HV.out];simp [results,Tryz.results136,go_sem,hcc]) rfl ⟨rfl,?_⟩;repeat (first | exact hw1 | (refine Below.setCell ?_ (by first | (simp;done) | (simp;omega)) _))
end Go.Proofs.YtpheiojmcafolaaGreatDoor
