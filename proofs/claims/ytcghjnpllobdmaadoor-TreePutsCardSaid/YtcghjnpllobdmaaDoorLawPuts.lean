/-
  THE WALK of the law TreePuts.
-/
import Derived.Test.YtcghjnpllobdmaaDoorTold
import Derived.Test.YtcghjnpllobdmaaDoorRef5
import Derived.Test.YtcghjnpllobdmaaDoorTree6
namespace Go.Proofs.YtcghjnpllobdmaaDoor
open Go.RowKit

theorem putV_len (e v : List Nd) (s : ByteArray) : (putV e s v).1.length ≤ 200 := by
  unfold putV
  repeat' split
  all_goals first | (simp; done) | omega | (simp; omega)
set_option maxRecDepth 100000 in
set_option maxHeartbeats 4000000 in
theorem law_puts (e v : List Nd) (s : ByteArray) (A Av : Option Addr) (c cv : Nat) (w : World) (hg : ErrCell w) (hc : e.length ≤ c) (hcm : c ≤ 9223372036854775807) (hok : NdOk e) (hsl : NdSl w w.heap.size A e)
    (hcv : v.length ≤ cv) (hcvm : cv ≤ 9223372036854775807) (hokv : NdOk v) (hslv : NdSl w w.heap.size Av v) :
    Calls Tryd.prog 4 #[.slice A e.length c, .string s, .slice Av v.length cv] w fun r w' => r = .returned (.bool true) ∧ Below w.heap.size w w' := by
  have hlt := hg.lt
  have hlen := putV_len e v s
  have H1 := Lib.hid (r2_Put e v s A Av c cv w hc hcm hok hsl hcv hcvm hokv hslv)
  have H2 : Hid (∀ W, Below w.heap.size w W → Calls Tryd.prog 9 #[.slice A e.length c, .string s, .slice Av v.length cv] W fun r w' => NdsBack W r w' (putV e s v).1 (putV e s v).2) := fun W hW => tree_Put e v s A Av c cv W hc hcm hok ((hsl.below hW).more hW.size) hcv hcvm hokv ((hslv.below hW).more hW.size)
  have HG := Lib.hid hg
  generalize (putV e s v).1 = xs at H1 H2 hlen
  generalize (putV e s v).2 = k at H1 H2
  clear hsl hslv hok hokv hg
  go_enter Tryd.func4, Tryd.ntmps4
  go_wp2_with fail
  refine Calls.mono H1.out ?_
  rintro r w1 ⟨A1, c1, rfl, _, _, hs1, hb1⟩
  have HS1 := Lib.hid hs1
  clear hs1
  go_wp2_with fail
  refine Calls.mono (H2.out w1 hb1) ?_
  rintro r w2 ⟨A2, c2, rfl, _, _, hs2, hb2⟩
  have hw2 : Below w.heap.size w w2 := hb1.trans (hb2.mono hb1.size)
  have HS1a := Lib.hid ((HS1.out.below hb2).more hb2.size)
  have HS2 := Lib.hid hs2
  clear hs2 hb2 hb1 HS1
  go_wp2_with fail
  refine Calls.mono (same_Error k w2 (HG.out.below hw2 hlt)) ?_
  rintro r w3 ⟨rfl, hb3⟩
  have hw3 : Below w.heap.size w w3 := hw2.trans (hb3.mono hw2.size)
  have HS1b := Lib.hid ((HS1a.out.below hb3).more hb3.size)
  have HS2b := Lib.hid ((HS2.out.below hb3).more hb3.size)
  clear hb3 hw2 HS1a HS2
  go_wp2_with fail
  refine Calls.mono (same_Nodes xs A2 A1 c2 c1 w3 HS2b.out HS1b.out (by omega)) ?_
  rintro r w4 ⟨rfl, hb4⟩
  go_wp2_with fail
  go_ret
  exact ⟨rfl, hw3.trans (hb4.mono hw3.size)⟩
end Go.Proofs.YtcghjnpllobdmaaDoor
