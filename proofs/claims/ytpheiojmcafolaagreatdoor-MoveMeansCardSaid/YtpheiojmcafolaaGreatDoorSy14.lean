/-
 ARGUMENTS that are entities, requests and policies, opened, with numbers that stay in 64 bits.
-/
import Derived.Test.YtpheiojmcafolaaGreatDoorSy08
import Derived.Test.YtpheiojmcafolaaGreatDoorSy09
import Derived.Test.YtpheiojmcafolaaGreatDoorSy13
namespace Go.Proofs.YtpheiojmcafolaaGreatDoor
set_option maxRecDepth 100000
open Go.ChangeShapes Go.WideShapes Go.RowKit Go.Deep
def Reach {H : Type} (t : TypeId) (d : DataW H) : Prop := ∀ n, n ∈ d.weights Tryz.prog t → n ≤ reachBytes
theorem cells_uids : Tryz.prog.cellsOf 107 = 1 := by kernel_rfl
theorem cells_entity : Tryz.prog.cellsOf 109 = 4 := by kernel_rfl
theorem cells_request : Tryz.prog.cellsOf 39 = 7 := by kernel_rfl
section
variable {H : Type} {enc : TypeId × Value → H} {W : World}
theorem i64_wf {a : Int} (h : (Lit.int .i64 a).wf = true) : I64 a := by
 unfold Lit.wf at h;rw [Bool.and_eq_true, decide_eq_true_eq, decide_eq_true_eq] at h;exact h
theorem nodeI_trod {n : Nat} {cs : List Value} {y : DataW H × List MemPlace} (h : DataW.trod enc Tryz.prog W 0 (fun _ => true) true n 37 cs = some y) :
 ∃ x : Nd, cs = x.cells ∧ y.1 = ndData x ∧ I64 x.n := by
 obtain ⟨x, h1, h2⟩ := node_trod h;refine ⟨x, h1, h2, ?_⟩;obtain ⟨xs, m, _, hy, hlen, hxl, hf⟩ := DataW.trod_struct Tryz.underlying37 h;subst h1;match xs, hxl with
 | [y0, y1, y2, y3], _ =>
  have e1 : DataW.trod enc Tryz.prog W 0 (fun _ => true) true m 3 ((x.cells.drop 1).take (Tryz.prog.cellsOf 3)) = some y1 := hf 1 _ rfl;simp only [cells_int, Nd.cells, List.drop_zero, List.drop_succ_cons, List.take_succ_cons, List.take_zero] at e1;obtain ⟨a1, q1, r1, i1⟩ := DataW.trod_int Tryz.underlying3 e1;simp only [List.cons.injEq, and_true, Value.int.injEq, true_and] at q1;rw [q1];exact i64_wf i1
theorem nodesI_trod {n : Nat} {cs : List Value} {y : DataW H × List MemPlace} (h : DataW.trod enc Tryz.prog W 0 (fun _ => true) true n 22 cs = some y) :
 ∃ (A : Option Addr) (xs : List Nd) (c : Nat), cs = [.slice A xs.length c] ∧ xs.length ≤ c ∧ c ≤ 9223372036854775807 ∧ NdSl W W.heap.size A xs ∧ NdI xs ∧ (Reach 22 y.1 → NdOk xs) := by
 obtain ⟨A, xs, c, h1, h2, h3, h4, h5, h6⟩ := open_gen (Good := fun x : Nd => I64 x.n) Tryz.underlying22 cells_node nd_ok (fun _ _ _ h => nodeI_trod h) h;refine ⟨A, xs, c, h1, h2, h3, h4.nds, h5, fun hr => ?_⟩;rcases h6 with rfl | ⟨sp, h6⟩
 · intro x hx; cases hx
 · rw [h6] at hr; exact nd_weights (H := H) hr
theorem open_nodesI {b0 : Nat} {v : Value} {d : DataW H} {p : List MemPlace} (hv : Value.okWide Tryz.prog W .any b0 22 v) (h : DataW.Trod enc Tryz.prog W 0 (fun _ => true) true 22 v d p) :
 ∃ (A : Option Addr) (xs : List Nd) (c : Nat), v = .slice A xs.length c ∧ xs.length ≤ c ∧ c ≤ 9223372036854775807 ∧ NdSl W W.heap.size A xs ∧ NdI xs ∧ (Reach 22 d → NdOk xs) := by
 obtain ⟨a0, len, cap, rfl⟩ := okWide_slice Tryz.underlying22 hv;obtain ⟨fuel, hf⟩ := h;obtain ⟨A, xs, c, q1, h1⟩ := nodesI_trod hf;simp only [Value.cells, List.cons.injEq, and_true] at q1;exact ⟨A, xs, c, q1, h1⟩
theorem uids_trod {n : Nat} {cs : List Value} {y : DataW H × List MemPlace} (h : DataW.trod enc Tryz.prog W 0 (fun _ => true) true n 107 cs = some y) :
 ∃ (A : Option Addr) (xs : List Ud) (c : Nat), cs = [.slice A xs.length c] ∧ xs.length ≤ c ∧ c ≤ 9223372036854775807 ∧ UdSl W W.heap.size A xs ∧ (Reach 107 y.1 → ∀ u ∈ xs, UdOk u) := by
 obtain ⟨A, xs, c, h1, h2, h3, h4, _, h6⟩ := open_gen (en := udC) (Good := fun _ => True) Tryz.underlying107 cells_uid udC_ok (fun _ _ _ h => by obtain ⟨u, h1, h2⟩ := uid_trod h; exact ⟨u, h1, h2, trivial⟩) h;refine ⟨A, xs, c, h1, h2, h3, h4, fun hr u hu => ?_⟩;rcases h6 with rfl | ⟨sp, h6⟩
 · cases hu
 · rw [h6] at hr;exact ud_weights (H := H) fun n hn => hr n (slice_weights Tryz.underlying107 (List.mem_map_of_mem hu) hn)
def EnR (W : World) (x : Eh × En) (d : DataW H) : Prop :=
 EhOk W W.heap.size x.1 x.2 ∧ NdI x.2.at_ ∧ (Reach 109 d → UdOk x.2.u ∧ (∀ p ∈ x.2.up, UdOk p) ∧ NdOk x.2.at_)
theorem entity_trod {n : Nat} {cs : List Value} {y : DataW H × List MemPlace} (h : DataW.trod enc Tryz.prog W 0 (fun _ => true) true n 109 cs = some y) :
 ∃ x : Eh × En, cs = ehC x.1 ∧ EnR W x y.1 := by
 obtain ⟨xs, m, _, hy, hlen, hxl, hf⟩ := DataW.trod_struct Tryz.underlying109 h;rw [cells_entity] at hlen;match cs, hlen with
 | [c0, c1, c2, c3], _ =>
  match xs, hxl with
  | [y0, y1, y2], _ =>
   have e0 : DataW.trod enc Tryz.prog W 0 (fun _ => true) true m 34 (([c0, c1, c2, c3].drop 0).take (Tryz.prog.cellsOf 34)) = some y0 := hf 0 _ rfl;have e1 : DataW.trod enc Tryz.prog W 0 (fun _ => true) true m 107 (([c0, c1, c2, c3].drop 2).take (Tryz.prog.cellsOf 107)) = some y1 := hf 1 _ rfl;have e2 : DataW.trod enc Tryz.prog W 0 (fun _ => true) true m 22 (([c0, c1, c2, c3].drop 3).take (Tryz.prog.cellsOf 22)) = some y2 := hf 2 _ rfl;simp only [cells_uid, cells_uids, cells_nodes, List.drop_zero, List.drop_succ_cons, List.take_succ_cons, List.take_zero] at e0 e1 e2;obtain ⟨u, q0, r0⟩ := uid_trod e0;obtain ⟨A1, up, c1', q1, l1, m1, s1, z1⟩ := uids_trod e1;obtain ⟨A2, at_, c2', q2, l2, m2, s2, i2, z2⟩ := nodesI_trod e2;simp only [List.cons.injEq, and_true] at q0 q1 q2;obtain ⟨q0, q0'⟩ := q0;subst q0 q0' q1 q2;refine ⟨(⟨u, A1, up.length, c1', A2, at_.length, c2'⟩, ⟨u, up, at_⟩), rfl, ⟨rfl, rfl, ⟨l1, m1⟩, s1, rfl, ⟨l2, m2⟩, s2⟩, i2, fun hr => ?_⟩;have hd : y.1 = .agg [y0.1, y1.1, y2.1] := (by rw [hy]; rfl);rw [hd] at hr;have g : ∀ {j : Nat} {t : TypeId} {d : DataW H}, [34, 107, 22][j]? = some t → [y0.1, y1.1, y2.1][j]? = some d → Reach t d := fun ht hd n hn => hr n (by simp only [DataW.weights, Tryz.underlying109]; exact DataW.weights_mem_each ht hd n hn);refine ⟨ud_weights (H := H) (by rw [← r0]; exact g (j := 0) rfl rfl), z1 (g (j := 1) rfl rfl), z2 (g (j := 2) rfl rfl)⟩
theorem eh2_ok : EncOk (fun x : Eh × En => ehC x.1) 4 := ⟨fun x => ehC_ok.len x.1, ehC_ok.pos, fun x u hu => ehC_ok.one x.1 u hu⟩
theorem open_ents {b0 : Nat} {v : Value} {d : DataW H} {p : List MemPlace} (hv : Value.okWide Tryz.prog W .any b0 42 v) (h : DataW.Trod enc Tryz.prog W 0 (fun _ => true) true 42 v d p) :
 ∃ (A : Option Addr) (hs : List Eh) (es : List En) (c : Nat), v = .slice A hs.length c ∧ hs.length ≤ c ∧ c ≤ 9223372036854775807 ∧ (∀ e ∈ es, NdI e.at_) ∧ (Reach 42 d → EntsIn W A hs es) := by
 obtain ⟨a0, len, cap, rfl⟩ := okWide_slice Tryz.underlying42 hv;obtain ⟨fuel, hf⟩ := h;obtain ⟨A, xs, c, q1, h1, h2, h3, h4⟩ := open_rel (R := EnR W) Tryz.underlying42 cells_entity eh2_ok (fun _ _ _ h => entity_trod h) hf;simp only [Value.cells, List.cons.injEq, and_true] at q1;have hr : ∀ x ∈ xs, ∃ d' : DataW H, EnR W x d' ∧ (Reach 42 d → Reach 109 d') := fun x hx => by
  rcases h4 with rfl | ⟨sp, ds, hd, h5⟩
  · cases hx
  · obtain ⟨d', hd', hR⟩ := h5 x hx;refine ⟨d', hR, fun hr n hn => hr n ?_⟩;rw [show d = DataW.slice ds sp from hd];exact slice_weights Tryz.underlying42 hd' hn
 refine ⟨A, xs.map Prod.fst, xs.map Prod.snd, c, by rw [q1, List.length_map], by simpa using h1, h2, fun e he => ?_, fun hR => ⟨?_, ⟨by simp, fun i a b ha hb => ?_⟩, fun e he => ?_, fun e he => ?_, fun e he => ?_⟩⟩
 · obtain ⟨x, hx, rfl⟩ := List.mem_map.1 he;obtain ⟨d', hd', _⟩ := hr x hx;exact hd'.2.1
 · intro hne;obtain ⟨b, o, e, hb, hc⟩ := h3 (by intro hc; apply hne; rw [hc]; rfl);refine ⟨b, o, e, hb, fun i x hx => ?_⟩;rw [List.getElem?_map] at hx;obtain ⟨z, hz, rfl⟩ := Option.map_eq_some_iff.1 hx;exact hc i z hz
 · rw [List.getElem?_map] at ha hb;obtain ⟨z, hz, rfl⟩ := Option.map_eq_some_iff.1 ha;rw [hz] at hb;obtain rfl : z.2 = b := by simpa using hb
   obtain ⟨d', hd', _⟩ := hr z (List.mem_of_getElem? hz);exact hd'.1
 all_goals
  obtain ⟨x, hx, rfl⟩ := List.mem_map.1 he;obtain ⟨d', hd', hw⟩ := hr x hx;have := hd'.2.2 (hw hR)
 · exact this.1
 · exact this.2.1
 · exact this.2.2
theorem open_request {b0 : Nat} {v : Value} {d : DataW H} {p : List MemPlace} (hv : Value.okWide Tryz.prog W .any b0 39 v) (h : DataW.Trod enc Tryz.prog W 0 (fun _ => true) true 39 v d p) :
 ∃ (q : Rq) (A : Option Addr) (c : Nat), v = .agg #[.string q.who.ty, .string q.who.id, .string q.act.ty, .string q.act.id, .string q.what.ty, .string q.what.id, .slice A q.ctx.length c] ∧ q.ctx.length ≤ c ∧ c ≤ 9223372036854775807 ∧ NdSl W W.heap.size A q.ctx ∧ NdI q.ctx ∧
  (Reach 39 d → UdOk q.who ∧ UdOk q.act ∧ UdOk q.what ∧ NdOk q.ctx) := by
 obtain ⟨cs, rfl, hsz⟩ := okWide_struct Tryz.underlying39 hv;obtain ⟨cs⟩ := cs;obtain ⟨fuel, hf⟩ := h;obtain ⟨xs, m, _, hy, hlen, hxl, hf⟩ := DataW.trod_struct Tryz.underlying39 hf;rw [cells_request] at hlen;simp only [Value.cells] at hlen hf;match cs, hlen with
 | [c0, c1, c2, c3, c4, c5, c6], _ =>
  match xs, hxl with
  | [y0, y1, y2, y3], _ =>
   have e0 : DataW.trod enc Tryz.prog W 0 (fun _ => true) true m 34 (([c0, c1, c2, c3, c4, c5, c6].drop 0).take (Tryz.prog.cellsOf 34)) = some y0 := hf 0 _ rfl;have e1 : DataW.trod enc Tryz.prog W 0 (fun _ => true) true m 34 (([c0, c1, c2, c3, c4, c5, c6].drop 2).take (Tryz.prog.cellsOf 34)) = some y1 := hf 1 _ rfl;have e2 : DataW.trod enc Tryz.prog W 0 (fun _ => true) true m 34 (([c0, c1, c2, c3, c4, c5, c6].drop 4).take (Tryz.prog.cellsOf 34)) = some y2 := hf 2 _ rfl;have e3 : DataW.trod enc Tryz.prog W 0 (fun _ => true) true m 22 (([c0, c1, c2, c3, c4, c5, c6].drop 6).take (Tryz.prog.cellsOf 22)) = some y3 := hf 3 _ rfl;simp only [cells_uid, cells_nodes, List.drop_zero, List.drop_succ_cons, List.take_succ_cons, List.take_zero] at e0 e1 e2 e3;obtain ⟨u0, q0, r0⟩ := uid_trod e0;obtain ⟨u1, q1, r1⟩ := uid_trod e1;obtain ⟨u2, q2, r2⟩ := uid_trod e2;obtain ⟨A, ctx, c, q3, l3, m3, s3, i3, z3⟩ := nodesI_trod e3;simp only [List.cons.injEq, and_true] at q0 q1 q2 q3;obtain ⟨q0, q0'⟩ := q0;obtain ⟨q1, q1'⟩ := q1;obtain ⟨q2, q2'⟩ := q2;subst q0 q0' q1 q1' q2 q2' q3;refine ⟨⟨u0, u1, u2, ctx⟩, A, c, rfl, l3, m3, s3, i3, fun hr => ?_⟩;have hd : d = .agg [y0.1, y1.1, y2.1, y3.1] := (Prod.ext_iff.1 hy).1;rw [hd] at hr;have g : ∀ {j : Nat} {t : TypeId} {d : DataW H}, [34, 34, 34, 22][j]? = some t → [y0.1, y1.1, y2.1, y3.1][j]? = some d → Reach t d := fun ht hd n hn => hr n (by simp only [DataW.weights, Tryz.underlying39]; exact DataW.weights_mem_each ht hd n hn);exact ⟨ud_weights (H := H) (by rw [← r0]; exact g (j := 0) rfl rfl), ud_weights (H := H) (by rw [← r1]; exact g (j := 1) rfl rfl), ud_weights (H := H) (by rw [← r2]; exact g (j := 2) rfl rfl), z3 (g (j := 3) rfl rfl)⟩
theorem ents_rec : Tryz.prog.readableRec 42 = true := by kernel_rfl
theorem ents_lt : 42 < Tryz.prog.types.size := of_decide_eq_true (by kernel_rfl)
theorem request_rec : Tryz.prog.readableRec 39 = true := by kernel_rfl
theorem request_lt : 39 < Tryz.prog.types.size := of_decide_eq_true (by kernel_rfl)
end
end Go.Proofs.YtpheiojmcafolaaGreatDoor
