/-
  THE WALKS: the reference's glued.
-/
import Derived.Test.YtbommoefpekalaaGreatDoorEx2
import Derived.Test.YtbommoefpekalaaGreatDoorOff
import Derived.Laws.AppendOwnNone
namespace Go.Proofs.YtbommoefpekalaaGreatDoor
open Go.RowKit Go.Sort

set_option maxRecDepth 100000 in
set_option maxHeartbeats 1600000 in
/-- A node, and two lists behind it. -/
theorem r4_glued (x : Nd) (a b : NsM) (w : World) (ha : NsGood w w.heap.size a) (hb : NsGood w w.heap.size b) (na : a.e ≠ []) (nb : b.e ≠ []) (hl : a.e.length + b.e.length ≤ 100000) :
    Calls Tryz.prog 50 #[.agg #[.int .i64 x.op, .int .i64 x.n, .string x.s, .string x.t], .slice a.A a.e.length a.c, .slice b.A b.e.length b.c] w fun r w' => NdsRet w r w' (x :: (a.e ++ b.e)) := by
  obtain ⟨i0, hi, hz0, hz1, hz2⟩ := info_parts nd_info
  obtain ⟨Aa, ca, ea⟩ := a
  obtain ⟨Ab, cb, eb⟩ := b
  obtain ⟨ba, oa, rfl, hba, -⟩ := ha.sl na
  obtain ⟨bb, ob, rfl, hbb, -⟩ := hb.sl nb
  have HA := Lib.hid (fun W (hW : RowKit.Below w.heap.size w W) j u hu => NdSl.flat (ha.sl.below hW) j u hu)
  have HB := Lib.hid (fun W (hW : RowKit.Below w.heap.size w W) j u hu => NdSl.flat (hb.sl.below hW) j u hu)
  have hl' : ea.length + eb.length ≤ 100000 := hl
  have ho := World.ownsRow_lit (base := w.heap.size) (e := 92) (size := 4) (w.alloc (.cells #[.int .i64 x.op, .int .i64 x.n, .string x.s, .string x.t] 92)) #[.int .i64 x.op, .int .i64 x.n, .string x.s, .string x.t] 1 (by simp) (by decide) (by simp)
  rw [show (w.alloc (.cells #[.int .i64 x.op, .int .i64 x.n, .string x.s, .string x.t] 92)).heap.size = w.heap.size + 1 from by simp, show (#[.int .i64 x.op, .int .i64 x.n, .string x.s, .string x.t] : Array Value).toList = flat [x] from by simp [flat, Nd.cells]] at ho
  have HO := Lib.hid ho
  have hbw : RowKit.Below w.heap.size w ((w.alloc (.cells #[.int .i64 x.op, .int .i64 x.n, .string x.s, .string x.t] 92)).alloc (.cells #[.int .i64 x.op, .int .i64 x.n, .string x.s, .string x.t] 92)) := by (repeat (first | assumption | exact Below.refl _ _ | apply Below.drew | apply below_drewN | (refine Below.alloc ?_ (by first | exact Nat.le_refl _ | omega | (simp; done) | (simp; omega)) _)))
  clear ha hb na nb hl ho
  simp only at hba hbb HA HB ⊢
  go_enter Tryz.func50, Tryz.ntmps50
  go_wp2_with (first
    | (at_builtin; refine wpList_append_own _ rfl (.tmp 10) (.tmp 11) 58 rfl w.heap.size 92 i0 _ 4 48 Tryz.underlying58 hi hz0 hz1 hz2 rfl (by omega) _ 1 (flat [x]) rfl HO.out ⟨ba, oa, none⟩ ea.length ca (flat ea) rfl (flat_len ea) (HA.out _ hbw) (flat_one_cell ea) (by unfold maxLen; omega) (by omega) (by simp; omega) ?_; intro v1 w1 hown1 hgrow1 _; have hb2 : RowKit.Below w.heap.size w w1 := hbw.grown hgrow1 hbw.size (fun q hq => (HO.out.lt q hq).1); have HO2 := Lib.hid hown1; obtain ⟨A1, c1, rfl, hc1, hm1, hs1⟩ := own_form hown1; have HS1 := Lib.hid hs1; clear hgrow1 hown1 hs1)
    | (at_builtin; refine wpList_append_own _ rfl (.tmp 13) (.tmp 14) 58 rfl w.heap.size 92 i0 _ 4 48 Tryz.underlying58 hi hz0 hz1 hz2 rfl (by omega) _ (1 + ea.length) (flat [x] ++ flat ea) rfl HO2.out ⟨bb, ob, none⟩ eb.length cb (flat eb) rfl (flat_len eb) (HB.out _ hb2) (flat_one_cell eb) (by unfold maxLen; omega) (by omega) hb2.size ?_; intro v2 w2 hown2 hgrow2 _; have hb3 : RowKit.Below w.heap.size w w2 := hb2.grown hgrow2 hb2.size (fun q hq => (HO2.out.lt q hq).1); rw [← flat_append] at hown2; obtain ⟨A2, c2, rfl, hc2, hm2, hs2⟩ := own_form hown2; have HS2 := Lib.hid hs2; clear hgrow2 hown2 hs2))
  go_ret
  have hn : (x :: (ea ++ eb)).length = 1 + ea.length + eb.length := by simp; omega
  exact ⟨A2, c2, by rw [hn]; rfl, by rw [hn]; exact hc2, hm2, by simpa using HS2.out, hb3⟩
set_option maxRecDepth 100000 in
set_option maxHeartbeats 1600000 in
/-- A node, and one list behind it. -/
theorem r4_glued1 (x : Nd) (a : NsM) (w : World) (ha : NsGood w w.heap.size a) (na : a.e ≠ []) (hl : a.e.length ≤ 100000) :
    Calls Tryz.prog 50 #[.agg #[.int .i64 x.op, .int .i64 x.n, .string x.s, .string x.t], .slice a.A a.e.length a.c, .slice none 0 0] w fun r w' => NdsNew w r w' (x :: a.e) := by
  obtain ⟨i0, hi, hz0, hz1, hz2⟩ := info_parts nd_info
  obtain ⟨Aa, ca, ea⟩ := a
  obtain ⟨ba, oa, rfl, hba, -⟩ := ha.sl na
  have HA := Lib.hid (fun W (hW : RowKit.Below w.heap.size w W) j u hu => NdSl.flat (ha.sl.below hW) j u hu)
  have hl' : ea.length ≤ 100000 := hl
  have ho := World.ownsRow_lit (base := w.heap.size) (e := 92) (size := 4) (w.alloc (.cells #[.int .i64 x.op, .int .i64 x.n, .string x.s, .string x.t] 92)) #[.int .i64 x.op, .int .i64 x.n, .string x.s, .string x.t] 1 (by simp) (by decide) (by simp)
  rw [show (w.alloc (.cells #[.int .i64 x.op, .int .i64 x.n, .string x.s, .string x.t] 92)).heap.size = w.heap.size + 1 from by simp, show (#[.int .i64 x.op, .int .i64 x.n, .string x.s, .string x.t] : Array Value).toList = flat [x] from by simp [flat, Nd.cells]] at ho
  have HO := Lib.hid ho
  have hbw : RowKit.Below w.heap.size w ((w.alloc (.cells #[.int .i64 x.op, .int .i64 x.n, .string x.s, .string x.t] 92)).alloc (.cells #[.int .i64 x.op, .int .i64 x.n, .string x.s, .string x.t] 92)) := by (repeat (first | assumption | exact Below.refl _ _ | apply Below.drew | apply below_drewN | (refine Below.alloc ?_ (by first | exact Nat.le_refl _ | omega | (simp; done) | (simp; omega)) _)))
  clear ha na hl ho
  simp only at hba HA ⊢
  go_enter Tryz.func50, Tryz.ntmps50
  go_wp2_with (first
    | (at_builtin; refine wpList_append_own _ rfl (.tmp 10) (.tmp 11) 58 rfl w.heap.size 92 i0 _ 4 48 Tryz.underlying58 hi hz0 hz1 hz2 rfl (by omega) _ 1 (flat [x]) rfl HO.out ⟨ba, oa, none⟩ ea.length ca (flat ea) rfl (flat_len ea) (HA.out _ hbw) (flat_one_cell ea) (by unfold maxLen; omega) (by omega) (by simp; omega) ?_; intro v1 w1 hown1 hgrow1 _; have hb2 : RowKit.Below w.heap.size w w1 := hbw.grown hgrow1 hbw.size (fun q hq => (HO.out.lt q hq).1); have HO2 := Lib.hid hown1; rw [← flat_append] at hown1; obtain ⟨A1, c1, rfl, hc1, hm1, hs1, hnew⟩ := own_form_new hown1; have HNW := Lib.hid hnew; have HS1 := Lib.hid hs1; clear hgrow1 hown1 hs1 hnew)
    | (at_builtin; refine wpList_append_own_none rfl (.tmp 13) (.tmp 14) 58 rfl w.heap.size 92 i0 4 Tryz.underlying58 hi _ (1 + ea.length) (flat [x] ++ flat ea) rfl HO2.out rfl ?_))
  go_ret
  have hn : (x :: ea).length = 1 + ea.length := by simp; omega
  exact ⟨A1, c1, by rw [hn]; rfl, by rw [hn]; exact hc1, hm1, by simpa using HS1.out, hb2, HNW.out⟩
end Go.Proofs.YtbommoefpekalaaGreatDoor
