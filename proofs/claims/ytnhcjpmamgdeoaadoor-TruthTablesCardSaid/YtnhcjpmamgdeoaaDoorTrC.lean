/-
  THE WALKS: truth.rows and its iterator; slices.AppendSeq, slices.Collect of bools.
-/
import Derived.Test.YtnhcjpmamgdeoaaDoorTrB
import Derived.RangeFuncBox
import Derived.RangeFuncLeaves
import Derived.Shelf.Abstract
import Derived.OwnWalkIn
import Derived.TacticsInMore
import Derived.LoopNIn
import Derived.LoopIn
import Derived.Maps.AppendAt
namespace Go.Proofs.YtnhcjpmamgdeoaaDoor
open Go.RowKit Go.Sort Go.Shelf

attribute [local go_sem] Oper.semAt_some

def bC (b : Bool) : List Value := [.bool b]
theorem bC_ok : EncOk bC 1 := ⟨fun _ => rfl, by omega, fun x u hu => by
  simp only [bC, List.mem_cons, List.not_mem_nil, or_false] at hu
  subst hu; rfl⟩
abbrev BoSl := SlG bC 1
theorem bo_info : (Tryd.prog.info? 4).map (fun i => (i.zero, i.size, i.bytes)) = some (some (.bool false), 1, 1) := by kernel_rfl
theorem flat_bC (xs : List Bool) : flatG bC xs = xs.map Value.bool := by
  induction xs with
  | nil => rfl
  | cons x r ih => show bC x ++ flatG bC r = _; rw [ih]; rfl
/-- A list of bools that a call hands back. -/
def BosRet (w : World) (r : Ending) (w' : World) (xs : List Bool) : Prop :=
  ∃ A c, r = .returned (.slice A xs.length c) ∧ xs.length ≤ c ∧ c ≤ 9223372036854775807 ∧ BoSl w' w'.heap.size A xs ∧ RowKit.Below w.heap.size w w'
set_option maxRecDepth 100000 in
set_option maxHeartbeats 2000000 in
/-- slices.AppendSeq(nil, seq), of an iterator that gives just xs. -/
theorem appendSeq_b (w : World) (g : Nat) (lb : Array Value) (xs : List Bool) (hlen : xs.length ≤ 64) (eg : ∀ args w, (callFunc g args).run Tryd.prog w = .ok (.enter g args) w)
    (hseq : SeqStopsK Fence.wide 8 Tryd.prog g lb (fun b : Bool => #[Value.bool b]) (RowKit.Below w.heap.size) (fun ys => ys = xs) (fun _ => True) xs.length w) :
    Calls Tryd.prog 37 #[.slice none 0 0, .func (.func g) #[] lb] w fun r w' => BosRet w r w' xs := by
  refine (callsIn_wide (n := 9)).1 ?_
  have hro : Fence.wide.round = none := rfl
  obtain ⟨i0, hi, hz0, hz1, hz2⟩ := info_parts bo_info
  refine callsIn_of_wp_marks Tryd.func37 rfl trivial ?_ hro
  simp only [Tryd.ntmps37, List.size_toArray, List.length_cons, List.length_nil, Nat.reduceAdd, Nat.reduceSub, Array.replicate_succ, Array.replicate_zero, List.push_toArray, List.append_toArray, List.nil_append, List.cons_append]
  gi_wp2
  have bO := Boxed.new w 29 (.slice none 0 0)
  have hB0 : RowKit.Below w.heap.size w (w.alloc (.cells #[.slice none 0 0] 29)) := (RowKit.Below.refl _ w).alloc (Nat.le_refl _) _
  refine wpIn_rangeFunc_ownG hro (by omega) (gf := g) (lb := lb) rfl trivial eg hseq belowK_t (belowK_b (by simp)) hB0 (fun _ => rfl)
    (fun pre W => (∃ v, Boxed W w.heap.size 29 v ∧ W.ownsRow w.heap.size 4 1 v pre.length (pre.map Value.bool) ∧ True) ∧ RowKit.Below w.heap.size w W)
    (fun _ _ _ => False)
    (OwnFrom.and (Own.from (holdsRow_own w.heap.size w.heap.size 29 4 1 (fun pre : List Bool => pre.length) (fun pre => pre.map Value.bool) (fun pre v => True)) _) (ownFrom_below (Nat.le_refl _) (by simp)))
    (fun _ _ _ _ _ hs _ _ => hs)
    ⟨⟨_, bO, World.ownsRow_nil _ _ _ _, trivial⟩, hB0⟩
    (fun x => { tmps := #[.slice none 0 0, .func (.func g) #[] lb, .pointer (some ⟨w.heap.size, 0, none⟩), undef, .slice none 0 0, .bool x, .func (.func g) #[] lb, .bool x, undef, undef, undef, undef, undef], defers := [] }) ?assign ?body ?done ?stop
  case assign =>
    intro l x W K hK
    gi_wp2
    exact hK
  case body =>
    rintro l pre x W ⟨⟨v, hv, hrow, -⟩, hB⟩ hlt
    have hc := hv.cell
    gi_wp2_with (gi_at_builtin; refine wpListIn_append_own _ rfl _ _ 29 rfl w.heap.size 4 i0 (.bool false) 1 1 Tryd.underlying29 hi hz0 hz1 hz2 rfl (by decide) _ _ _ rfl (hrow.alloc _) ⟨W.heap.size, 0, none⟩ 1 1 [.bool x] rfl rfl (cell_one_new _ _ _) (by simp [Value.oneCell']) (by unfold maxLen; omega) (by omega) (by have := hB.size; simp; omega) ?_; intro v' w1 hown' hgrow _; obtain ⟨g', cap', rfl⟩ := ownsRow_succ hown'; obtain ⟨hv1, hv2, hr2, hk2, hb2⟩ := hv.appended (by decide) hrow hB.size (Nat.le_refl _) hown' hgrow; have hc1 := hv1.cell; have hf1 := hv1.frozen)
    exact ⟨hk2.from _, hb2, ⟨_, hv2, by simpa using hr2, trivial⟩, hB.trans hb2⟩
  case done =>
    rintro D ys W hD rfl ⟨⟨v, hv, hrow, -⟩, hB⟩ hK
    rw [← flat_bC] at hrow
    obtain ⟨-, A, c, rfl, hc1, hcm, hs⟩ := own_formG bC_ok hrow
    have hc := hv.cell
    gi_wp2
    refine ⟨by simp, .inl ⟨_, _, rfl, run_takeDeferred hK, ?_⟩⟩
    refine ⟨_, results_tmp rfl _ _ _, A, c, rfl, hc1, hcm, ?_, hB.trans (belowK_b (w := w) (Nat.le_refl _) W D _ _ (by simp at hD; omega) hK rfl rfl)⟩
    have h2 := ownsRow_putObj hrow (.deferred none) hK rfl
    obtain ⟨-, A', c', e, -, -, hs'⟩ := own_formG bC_ok h2
    injection e with e1 e2 e3
    rw [e1]
    exact hs'
  case stop =>
    rintro D c pre W _ _ h _
    exact h.elim
set_option maxHeartbeats 1000000 in
theorem collect_b (w : World) (g : Nat) (lb : Array Value) (xs : List Bool) (hlen : xs.length ≤ 64) (eg : ∀ args w, (callFunc g args).run Tryd.prog w = .ok (.enter g args) w)
    (hseq : SeqStopsK Fence.wide 8 Tryd.prog g lb (fun b : Bool => #[Value.bool b]) (RowKit.Below w.heap.size) (fun ys => ys = xs) (fun _ => True) xs.length w) :
    Calls Tryd.prog 25 #[.func (.func g) #[] lb] w fun r w' => BosRet w r w' xs := by
  have H := Lib.hid (appendSeq_b w g lb xs hlen eg hseq)
  clear hseq eg
  go_enter Tryd.func25, Tryd.ntmps25
  go_wp2_with fail
  refine H.out.mono ?_
  rintro r w1 ⟨A, c, rfl, h1, h2, h3, h4⟩
  have HS := Lib.hid h3
  have H1 := Lib.hid h1
  clear h1 h3
  go_wp2_with fail
  go_ret
  exact ⟨A, c, rfl, H1.out, h2, HS.out, h4⟩
end Go.Proofs.YtnhcjpmamgdeoaaDoor
