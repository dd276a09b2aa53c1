/-
  THE WALK of the law WordReads.
-/
import Derived.Test.YtcghjnpllobdmaaDoorRef12
import Derived.Test.YtcghjnpllobdmaaDoorLawJoins
import Derived.Test.YtcghjnpllobdmaaDoorTold
namespace Go.Proofs.YtcghjnpllobdmaaDoor
open Go.RowKit

theorem fact_reads : readP ⟨#[97, 32, 61, 61, 32, 53]⟩ = ([⟨1, bsOf [97], 0⟩, ⟨5, bsOf [61, 61], 2⟩, ⟨2, bsOf [53], 5⟩], 0, 0) := by
  rw [readP_R, ByteArray.toList_mk]; rfl
set_option maxRecDepth 100000 in
set_option maxHeartbeats 4000000 in
theorem law_reads (s : ByteArray) (w : World) (hg : ErrCell w) (hs : s.size ≤ 140737488351232) :
    Calls Tryd.prog 5 #[.string s] w fun r w' => r = .returned (.bool true) ∧ Below w.heap.size w w' := by
  have hlt := hg.lt
  have HG := Lib.hid hg
  have hf := word_Read ⟨#[97, 32, 61, 61, 32, 53]⟩ w (by decide)
  rw [fact_reads] at hf
  have HF := Lib.hid hf
  have HR1 := Lib.hid (fun W => r2_Words s W hs)
  have HR2 := Lib.hid (fun W => word_Read s W hs)
  have hlen := readP_len s
  obtain ⟨xs, a, k, hx⟩ : ∃ xs a k, readP s = (xs, a, k) := ⟨_, _, _, rfl⟩
  rw [hx] at HR1 HR2 hlen
  have ha : ((a : Int) == (a : Int)) = true := by simp
  have hlen : xs.length ≤ 300 := hlen
  clear hf hg hx
  go_enter Tryd.func5, Tryd.ntmps5
  go_wp2_with fail
  refine Calls.mono HF.out ?_
  rintro r w1 ⟨A1, c1, rfl, _, _, _, hb1⟩
  go_wp2_with fail
  refine Calls.mono (HR1.out _) ?_
  rintro r w2 ⟨A2, c2, rfl, _, _, hs2, hb2⟩
  have hw2 : Below w.heap.size w w2 := hb1.trans (hb2.mono hb1.size)
  have HS2 := Lib.hid hs2
  clear hs2 hb1 hb2
  go_wp2_with fail
  refine Calls.mono (HR2.out _) ?_
  rintro r w3 ⟨A3, c3, rfl, _, _, hs3, hb3⟩
  have hw3 : Below w.heap.size w w3 := hw2.trans (hb3.mono hw2.size)
  have HS2' := Lib.hid (HS2.out.later hb3)
  have HS3 := Lib.hid hs3
  clear hs3 hb3 hw2 HS2
  go_wp2_with fail
  refine Calls.mono (same_Error k w3 (HG.out.below hw3 hlt)) ?_
  rintro r w4 ⟨rfl, hb4⟩
  have hw4 : Below w.heap.size w w4 := hw3.trans (hb4.mono hw3.size)
  have HS2 := Lib.hid (HS2'.out.later hb4)
  have HS4 := Lib.hid (HS3.out.later hb4)
  clear hb4 hw3 HS2' HS3
  go_wp2_with fail
  refine Calls.mono (same_Tokens xs A3 A2 c3 c2 w4 HS4.out HS2.out (by omega)) ?_
  rintro r w5 ⟨rfl, hb5⟩
  go_wp2_with fail
  go_ret
  exact ⟨rfl, hw4.trans (hb5.mono hw4.size)⟩
end Go.Proofs.YtcghjnpllobdmaaDoor
