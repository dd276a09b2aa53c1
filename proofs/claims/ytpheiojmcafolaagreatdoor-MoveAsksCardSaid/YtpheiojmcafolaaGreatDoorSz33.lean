/-
 THE WALK: the laws' comparison of texts.
-/
import Derived.Test.YtpheiojmcafolaaGreatDoorSz16
set_option maxRecDepth 100000
set_option maxHeartbeats 25600000
namespace Go.Proofs.YtpheiojmcafolaaGreatDoor
open Go.RowKit Go.Sort
theorem Zhp (ss:List (List UInt8))(A1 A2:Option Addr)(c1 c2:Nat)(w:World)(h1:Y2 w w.heap.size A1 ss)(h2:Y2 w w.heap.size A2 ss)(l1:ss.length<=9223372036854775807) :
 Calls Tryz.prog 37 #[.slice A1 ss.length c1,.slice A2 ss.length c2] w λr w'=>r=.returned (.bool true)/\RowKit.Below w.heap.size w w':=by
 have H1:=Ld h1;have H2:=Ld h2;have hne:((ss.length:Int) != (ss.length:Int))=false:=by simp
 clear h1 h2;go_enter Tryz.func37,Tryz.ntmps37
 go_wp2_with fail
 go_loopw [5] (λkk wr=>∃k:Nat,kk=.int .i64 k/\k<=ss.length/\RowKit.Below w.heap.size w wr) (λkk _=>ss.length - (intOf kk).toNat)
 case atStart=>exact ⟨0,rfl,by omega,RowKit.Below.refl _ _⟩
 case round=>
  obtain ⟨k,rfl,hk,hbr⟩:=hrel;by_cases hlt:k < ss.length
  . obtain ⟨b,o,rfl,hb,hcs⟩:=(H1.out.below hbr).at_ hlt;obtain ⟨b2,o2,rfl,hb2,hcs2⟩:=(H2.out.below hbr).at_ hlt;obtain ⟨x,hx⟩:∃x,ss[k]? = some x:=⟨_,gE hlt⟩;have d0:=hcs k x hx;have f0:=hcs2 k x hx;clear hcs hcs2 hx;go_wp2_with fail
    go_quiet (fail)
    go_wp2_with fail
    exact ⟨⟨k+1,by go_num,by omega,Za hbr _⟩,by simp [intOf];omega⟩
  . go_wp2_with fail
    go_ret
    exact ⟨rfl,hbr⟩
end Go.Proofs.YtpheiojmcafolaaGreatDoor
