/-
  ARGUMENTS that are uids, scopes and policies, opened: what the row's reading says of memory.
-/
import Derived.Test.YtbommoefpekalaaGreatDoorRow1
import Derived.Test.YtbommoefpekalaaGreatDoorPol2
namespace Go.Proofs.YtbommoefpekalaaGreatDoor
set_option maxRecDepth 100000
open Go.ChangeShapes Go.WideShapes Go.RowKit Go.Deep

def strD {H : Type} (s : ByteArray) : DataW H := .lit (.string s.data.toList)
def udData {H : Type} (u : Ud) : DataW H := .agg [strD u.ty, strD u.id]
def scData {H : Type} (s : Sc) : DataW H := .agg [.lit (.int .i64 s.op), strD s.ty, udData s.uid]
theorem cells_int : Tryz.prog.cellsOf 3 = 1 := by kernel_rfl
theorem cells_str : Tryz.prog.cellsOf 9 = 1 := by kernel_rfl
theorem cells_bool : Tryz.prog.cellsOf 4 = 1 := by kernel_rfl
theorem cells_nodes : Tryz.prog.cellsOf 58 = 1 := by kernel_rfl
theorem cells_uid : Tryz.prog.cellsOf 40 = 2 := by kernel_rfl
theorem cells_scope : Tryz.prog.cellsOf 42 = 4 := by kernel_rfl
theorem cells_cond : Tryz.prog.cellsOf 83 = 2 := by kernel_rfl
theorem cells_conds : Tryz.prog.cellsOf 43 = 1 := by kernel_rfl
theorem cells_policy : Tryz.prog.cellsOf 45 = 15 := by kernel_rfl
theorem nd_ok : EncOk Nd.cells 4 := ⟨fun _ => rfl, by omega, fun x u hu => by
  simp only [Nd.cells, List.mem_cons, List.not_mem_nil, or_false] at hu
  rcases hu with rfl | rfl | rfl | rfl <;> rfl⟩
theorem SlG.nds {w : World} {B : Nat} {A : Option Addr} {xs : List Nd} (h : SlG Nd.cells 4 w B A xs) : NdSl w B A xs := fun hne => by
  obtain ⟨b, o, e, hb, hc⟩ := h hne
  exact ⟨b, o, e, hb, fun i x hx => ⟨hc i x hx 0 _ rfl, hc i x hx 1 _ rfl, hc i x hx 2 _ rfl, hc i x hx 3 _ rfl⟩⟩

section
variable {H : Type} {enc : TypeId × Value → H} {W : World}
/-- A list of values whose datum is no function of the value. -/
theorem open_rel {α : Type} {en : α → List Value} {k : Nat} {R : α → DataW H → Prop} {t e : TypeId} (ht : Tryz.prog.underlying t = some (.slice e)) (ce : Tryz.prog.cellsOf e = k) (he : EncOk en k)
    (hel : ∀ n cs y, DataW.trod enc Tryz.prog W 0 (fun _ => true) true n e cs = some y → ∃ x, cs = en x ∧ R x y.1) {fuel : Nat} {cs : List Value} {y : DataW H × List MemPlace}
    (hf : DataW.trod enc Tryz.prog W 0 (fun _ => true) true fuel t cs = some y) :
    ∃ (A : Option Addr) (xs : List α) (c : Nat), cs = [.slice A xs.length c] ∧ xs.length ≤ c ∧ c ≤ 9223372036854775807 ∧ SlG en k W W.heap.size A xs ∧ (xs = [] ∨ ∃ sp ds, y.1 = .slice ds sp ∧ ∀ x ∈ xs, ∃ d ∈ ds, R x d) := by
  rcases open_slice ht hf with ⟨hcs, _⟩ | ⟨a, len', cap', m, n, D, Pl, hcs, _, hl, hm, hmm, hx, hi⟩
  · exact ⟨none, [], 0, hcs, by simp, by omega, SlG.nil _ _ _, .inl rfl⟩
  · simp only [if_true] at hmm
    subst hmm
    have hel' : ∀ i, i < m → ∃ x : α, R x (D i) ∧ ∀ j u, (en x)[j]? = some u → W.cell? (a.add (i * k + j)) = some u := by
      intro i him
      obtain ⟨cs', hc, ht'⟩ := hi i him
      rw [ce] at hc
      obtain ⟨x, rfl, hd⟩ := hel _ _ _ ht'
      refine ⟨x, hd, fun j u hu => ?_⟩
      obtain ⟨_, _, hat⟩ := World.cells?_some hc
      have hj : j < k := by have := (List.getElem?_eq_some_iff.1 hu).1; rwa [he.len] at this
      have := hat j hj
      rw [add_add] at this
      rw [this, hu]
    have hxs : ∀ r, r ≤ m → ∃ xs : List α, xs.length = r ∧ (∀ x ∈ xs, ∃ d ∈ (List.range r).map D, R x d) ∧ ∀ i x, xs[i]? = some x → ∀ j u, (en x)[j]? = some u → W.cell? (a.add (i * k + j)) = some u := by
      intro r
      induction r with
      | zero => intro _; exact ⟨[], rfl, by simp, fun i x hx => by simp at hx⟩
      | succ r ih =>
        intro hk
        obtain ⟨xs, h1, h3, h4⟩ := ih (by omega)
        obtain ⟨x, hd, hc⟩ := hel' r (by omega)
        refine ⟨xs ++ [x], by simp [h1], fun z hz => ?_, fun i y hy => ?_⟩
        · rcases List.mem_append.1 hz with hz | hz
          · obtain ⟨d, hd1, hd2⟩ := h3 z hz
            exact ⟨d, by rw [List.range_succ, List.map_append]; exact List.mem_append_left _ hd1, hd2⟩
          · rw [List.mem_singleton] at hz; subst hz; exact ⟨D r, by rw [List.range_succ, List.map_append]; simp, hd⟩
        · rcases Nat.lt_or_ge i xs.length with hlt | hge
          · rw [List.getElem?_append_left hlt] at hy; exact h4 i y hy
          · have : i = xs.length := by
              have := (List.getElem?_eq_some_iff.1 hy).1
              simp at this; omega
            subst this
            simp at hy
            subst hy
            rw [h1]; exact hc
    obtain ⟨xs, h1, h3, h4⟩ := hxs len' hl
    subst h1
    refine ⟨some a, xs, m, hcs, hl, by unfold maxLen at hm; omega, fun hne => ?_, .inr ⟨_, _, by rw [hx], h3⟩⟩
    have h0 : 0 < xs.length := List.length_pos_iff.2 hne
    have hen : 0 < (en xs[0]).length := by rw [he.len]; exact he.pos
    have hc0 := h4 0 xs[0] (List.getElem?_eq_getElem h0) 0 _ (List.getElem?_eq_getElem hen)
    have hsp : a.spot = none := by
      cases hs : a.spot with
      | none => rfl
      | some q =>
        simp [World.cell?, Addr.add, hs] at hc0
        split at hc0 <;> simp at hc0
    obtain ⟨b, o, sp⟩ := a
    simp only at hsp
    subst hsp
    simp only [add_none] at h4 hc0
    refine ⟨b, o, rfl, World.block_lt_of_cell? W _ hc0, fun i x hx j u hu => ?_⟩
    rw [Nat.add_assoc]
    exact h4 i x hx j u hu
theorem uid_trod {base : Nat} {spare : Nat → Bool} {held : Bool} {n : Nat} {cs : List Value} {y : DataW H × List MemPlace} (h : DataW.trod enc Tryz.prog W base spare held n 40 cs = some y) :
    ∃ u : Ud, cs = [.string u.ty, .string u.id] ∧ y.1 = udData u := by
  obtain ⟨xs, m, _, hy, hlen, hxl, hf⟩ := DataW.trod_struct Tryz.underlying40 h
  rw [cells_uid] at hlen
  match cs, hlen with
  | [c0, c1], _ =>
    match xs, hxl with
    | [y0, y1], _ =>
      have e0 : DataW.trod enc Tryz.prog W base spare held m 9 (([c0, c1].drop 0).take (Tryz.prog.cellsOf 9)) = some y0 := hf 0 _ rfl
      have e1 : DataW.trod enc Tryz.prog W base spare held m 9 (([c0, c1].drop 1).take (Tryz.prog.cellsOf 9)) = some y1 := hf 1 _ rfl
      simp only [cells_str, List.drop_zero, List.drop_succ_cons, List.take_succ_cons, List.take_zero] at e0 e1
      obtain ⟨a0, q0, r0, _⟩ := DataW.trod_string Tryz.underlying9 e0
      obtain ⟨a1, q1, r1, _⟩ := DataW.trod_string Tryz.underlying9 e1
      simp only [List.cons.injEq, and_true] at q0 q1
      subst q0 q1 r0 r1
      exact ⟨⟨a0, a1⟩, rfl, by rw [hy]; rfl⟩
theorem scope_trod {base : Nat} {spare : Nat → Bool} {held : Bool} {n : Nat} {cs : List Value} {y : DataW H × List MemPlace} (h : DataW.trod enc Tryz.prog W base spare held n 42 cs = some y) :
    ∃ s : Sc, cs = [.int .i64 s.op, .string s.ty, .string s.uid.ty, .string s.uid.id] ∧ y.1 = scData s := by
  obtain ⟨xs, m, _, hy, hlen, hxl, hf⟩ := DataW.trod_struct Tryz.underlying42 h
  rw [cells_scope] at hlen
  match cs, hlen with
  | [c0, c1, c2, c3], _ =>
    match xs, hxl with
    | [y0, y1, y2], _ =>
      have e0 : DataW.trod enc Tryz.prog W base spare held m 3 (([c0, c1, c2, c3].drop 0).take (Tryz.prog.cellsOf 3)) = some y0 := hf 0 _ rfl
      have e1 : DataW.trod enc Tryz.prog W base spare held m 9 (([c0, c1, c2, c3].drop 1).take (Tryz.prog.cellsOf 9)) = some y1 := hf 1 _ rfl
      have e2 : DataW.trod enc Tryz.prog W base spare held m 40 (([c0, c1, c2, c3].drop 2).take (Tryz.prog.cellsOf 40)) = some y2 := hf 2 _ rfl
      simp only [cells_str, cells_int, cells_uid, List.drop_zero, List.drop_succ_cons, List.take_succ_cons, List.take_zero] at e0 e1 e2
      obtain ⟨a0, q0, r0, _⟩ := DataW.trod_int Tryz.underlying3 e0
      obtain ⟨a1, q1, r1, _⟩ := DataW.trod_string Tryz.underlying9 e1
      obtain ⟨u, q2, r2⟩ := uid_trod e2
      simp only [List.cons.injEq, and_true] at q0 q1 q2
      obtain ⟨q2, q3⟩ := q2
      subst q0 q1 q2 q3 r0 r1
      exact ⟨⟨a0, a1, u⟩, rfl, by rw [hy]; show DataW.agg [_, _, y2.1] = _; rw [r2]; rfl⟩
/-- What the reading says of a condition. -/
def CdR (W : World) (x : CdM) (d : DataW H) : Prop :=
  x.e.length ≤ x.c ∧ x.c ≤ 9223372036854775807 ∧ NdSl W W.heap.size x.A x.e ∧ ∃ b s, d = .agg [b, s] ∧ (x.e = [] ∨ ∃ sp, s = .slice (x.e.map ndData) sp)
theorem nodes_trod {n : Nat} {cs : List Value} {y : DataW H × List MemPlace} (h : DataW.trod enc Tryz.prog W 0 (fun _ => true) true n 58 cs = some y) :
    ∃ (A : Option Addr) (xs : List Nd) (c : Nat), cs = [.slice A xs.length c] ∧ xs.length ≤ c ∧ c ≤ 9223372036854775807 ∧ NdSl W W.heap.size A xs ∧ (xs = [] ∨ ∃ sp, y.1 = .slice (xs.map ndData) sp) := by
  obtain ⟨A, xs, c, h1, h2, h3, h4, _, h6⟩ := open_gen (Good := fun _ => True) Tryz.underlying58 cells_node nd_ok (fun _ _ _ h => by obtain ⟨x, h1, h2⟩ := node_trod h; exact ⟨x, h1, h2, trivial⟩) h
  exact ⟨A, xs, c, h1, h2, h3, h4.nds, h6⟩
theorem cond_trod {n : Nat} {cs : List Value} {y : DataW H × List MemPlace} (h : DataW.trod enc Tryz.prog W 0 (fun _ => true) true n 83 cs = some y) :
    ∃ x : CdM, cs = x.cells ∧ CdR W x y.1 := by
  obtain ⟨xs, m, _, hy, hlen, hxl, hf⟩ := DataW.trod_struct Tryz.underlying83 h
  rw [cells_cond] at hlen
  match cs, hlen with
  | [c0, c1], _ =>
    match xs, hxl with
    | [y0, y1], _ =>
      have e0 : DataW.trod enc Tryz.prog W 0 (fun _ => true) true m 4 (([c0, c1].drop 0).take (Tryz.prog.cellsOf 4)) = some y0 := hf 0 _ rfl
      have e1 : DataW.trod enc Tryz.prog W 0 (fun _ => true) true m 58 (([c0, c1].drop 1).take (Tryz.prog.cellsOf 58)) = some y1 := hf 1 _ rfl
      simp only [cells_bool, cells_nodes, List.drop_zero, List.drop_succ_cons, List.take_succ_cons, List.take_zero] at e0 e1
      obtain ⟨a0, q0, r0⟩ := DataW.trod_bool Tryz.underlying4 e0
      obtain ⟨A, e, c, q1, h1, h2, h3, h4⟩ := nodes_trod e1
      simp only [List.cons.injEq, and_true] at q0 q1
      subst q0 q1
      exact ⟨⟨a0, A, c, e⟩, rfl, h1, h2, h3, y0.1, y1.1, by rw [hy]; rfl, h4⟩
/-- What the reading says of a policy. -/
structure PoR (W : World) (d : DataW H) (p : Po) (cs : List CdM) (A : Option Addr) (c : Nat) : Prop where
  same : p.conds = cs.map CdM.cd
  le : cs.length ≤ c
  max : c ≤ 9223372036854775807
  sl : CdSl W W.heap.size A cs
  each : ∀ x ∈ cs, x.e.length ≤ x.c ∧ x.c ≤ 9223372036854775807 ∧ NdSl W W.heap.size x.A x.e
  dat : ∃ b s, d = .agg [strD p.name, b, scData p.who, scData p.act, scData p.what, s] ∧ (cs = [] ∨ ∃ sp ds, s = .slice ds sp ∧ ∀ x ∈ cs, ∃ d ∈ ds, CdR W x d)
theorem policy_trod {n : Nat} {cs : List Value} {y : DataW H × List MemPlace} (h : DataW.trod enc Tryz.prog W 0 (fun _ => true) true n 45 cs = some y) :
    ∃ p ms A c, cs = [.string p.name, .bool p.forbid, .int .i64 p.who.op, .string p.who.ty, .string p.who.uid.ty, .string p.who.uid.id, .int .i64 p.act.op, .string p.act.ty, .string p.act.uid.ty, .string p.act.uid.id, .int .i64 p.what.op, .string p.what.ty, .string p.what.uid.ty, .string p.what.uid.id, .slice A ms.length c] ∧ PoR W y.1 p ms A c := by
  obtain ⟨xs, m, _, hy, hlen, hxl, hf⟩ := DataW.trod_struct Tryz.underlying45 h
  rw [cells_policy] at hlen
  match cs, hlen with
  | [c0, c1, c2, c3, c4, c5, c6, c7, c8, c9, c10, c11, c12, c13, c14], _ =>
    match xs, hxl with
    | [y0, y1, y2, y3, y4, y5], _ =>
      have e0 : DataW.trod enc Tryz.prog W 0 (fun _ => true) true m 9 (([c0, c1, c2, c3, c4, c5, c6, c7, c8, c9, c10, c11, c12, c13, c14].drop 0).take (Tryz.prog.cellsOf 9)) = some y0 := hf 0 _ rfl
      have e1 : DataW.trod enc Tryz.prog W 0 (fun _ => true) true m 4 (([c0, c1, c2, c3, c4, c5, c6, c7, c8, c9, c10, c11, c12, c13, c14].drop 1).take (Tryz.prog.cellsOf 4)) = some y1 := hf 1 _ rfl
      have e2 : DataW.trod enc Tryz.prog W 0 (fun _ => true) true m 42 (([c0, c1, c2, c3, c4, c5, c6, c7, c8, c9, c10, c11, c12, c13, c14].drop 2).take (Tryz.prog.cellsOf 42)) = some y2 := hf 2 _ rfl
      have e3 : DataW.trod enc Tryz.prog W 0 (fun _ => true) true m 42 (([c0, c1, c2, c3, c4, c5, c6, c7, c8, c9, c10, c11, c12, c13, c14].drop 6).take (Tryz.prog.cellsOf 42)) = some y3 := hf 3 _ rfl
      have e4 : DataW.trod enc Tryz.prog W 0 (fun _ => true) true m 42 (([c0, c1, c2, c3, c4, c5, c6, c7, c8, c9, c10, c11, c12, c13, c14].drop 10).take (Tryz.prog.cellsOf 42)) = some y4 := hf 4 _ rfl
      have e5 : DataW.trod enc Tryz.prog W 0 (fun _ => true) true m 43 (([c0, c1, c2, c3, c4, c5, c6, c7, c8, c9, c10, c11, c12, c13, c14].drop 14).take (Tryz.prog.cellsOf 43)) = some y5 := hf 5 _ rfl
      simp only [cells_str, cells_bool, cells_scope, cells_conds, List.drop_zero, List.drop_succ_cons, List.take_succ_cons, List.take_zero] at e0 e1 e2 e3 e4 e5
      obtain ⟨a0, q0, r0, _⟩ := DataW.trod_string Tryz.underlying9 e0
      obtain ⟨a1, q1, r1⟩ := DataW.trod_bool Tryz.underlying4 e1
      obtain ⟨s2, q2, r2⟩ := scope_trod e2
      obtain ⟨s3, q3, r3⟩ := scope_trod e3
      obtain ⟨s4, q4, r4⟩ := scope_trod e4
      obtain ⟨A, ms, c, q5, h1, h2, h3, h4⟩ := open_rel (R := CdR W) Tryz.underlying43 cells_cond cd_ok (fun _ _ _ h => cond_trod h) e5
      simp only [List.cons.injEq, and_true] at q0 q1 q2 q3 q4 q5
      obtain ⟨g0, g1, g2, g3⟩ := q2
      obtain ⟨k0, k1, k2, k3⟩ := q3
      obtain ⟨l0, l1, l2, l3⟩ := q4
      subst q0 q1 g0 g1 g2 g3 k0 k1 k2 k3 l0 l1 l2 l3 q5 r0
      refine ⟨⟨a0, a1, s2, s3, s4, ms.map CdM.cd⟩, ms, A, c, rfl, ⟨rfl, h1, h2, h3, fun x hx => ?_, y1.1, y5.1, ?_, h4⟩⟩
      · rcases h4 with rfl | ⟨sp, ds, _, h5⟩
        · cases hx
        · obtain ⟨d, _, hd⟩ := h5 x hx
          exact ⟨hd.1, hd.2.1, hd.2.2.1⟩
      · rw [hy]
        show DataW.agg [_, _, y2.1, y3.1, y4.1, _] = _
        rw [r2, r3, r4]; rfl
theorem open_policy {b0 : Nat} {v : Value} {d : DataW H} {p : List MemPlace} (hv : Value.okWide Tryz.prog W .any b0 45 v) (h : DataW.Trod enc Tryz.prog W 0 (fun _ => true) true 45 v d p) :
    ∃ q ms A c, v = .agg #[.string q.name, .bool q.forbid, .int .i64 q.who.op, .string q.who.ty, .string q.who.uid.ty, .string q.who.uid.id, .int .i64 q.act.op, .string q.act.ty, .string q.act.uid.ty, .string q.act.uid.id, .int .i64 q.what.op, .string q.what.ty, .string q.what.uid.ty, .string q.what.uid.id, .slice A ms.length c] ∧ PoR W d q ms A c := by
  obtain ⟨cs, rfl, hsz⟩ := okWide_struct Tryz.underlying45 hv
  obtain ⟨l⟩ := cs
  obtain ⟨fuel, hf⟩ := h
  obtain ⟨q, ms, A, c, h1, h2⟩ := policy_trod hf
  refine ⟨q, ms, A, c, ?_, h2⟩
  simp only [Value.cells] at h1
  subst h1
  rfl
theorem open_uid {b0 : Nat} {v : Value} {d : DataW H} {p : List MemPlace} (hv : Value.okWide Tryz.prog W .any b0 40 v) (h : DataW.Trod enc Tryz.prog W 0 (fun _ => true) true 40 v d p) :
    ∃ u : Ud, v = .agg #[.string u.ty, .string u.id] ∧ d = udData u := by
  obtain ⟨cs, rfl, hsz⟩ := okWide_struct Tryz.underlying40 hv
  obtain ⟨l⟩ := cs
  obtain ⟨fuel, hf⟩ := h
  obtain ⟨u, h1, h2⟩ := uid_trod hf
  refine ⟨u, ?_, h2⟩
  simp only [Value.cells] at h1
  subst h1
  rfl
theorem size_of_weight {s : ByteArray} (h : s.data.toList.length ≤ reachBytes) : s.size ≤ 140737488351232 := by
  rw [← ByteArray.toList_eq, toList_len] at h
  simpa only [reachBytes] using h
theorem ud_weights {u : Ud} (h : ∀ n, n ∈ (udData u : DataW H).weights Tryz.prog 40 → n ≤ reachBytes) : UdOk u :=
  ⟨size_of_weight (h _ (by simp [udData, strD, DataW.weights, Tryz.underlying40, DataW.weightsEach])), size_of_weight (h _ (by simp [udData, strD, DataW.weights, Tryz.underlying40, DataW.weightsEach]))⟩
theorem sc_weights {s : Sc} (h : ∀ n, n ∈ (scData s : DataW H).weights Tryz.prog 42 → n ≤ reachBytes) : ScZ s :=
  ⟨size_of_weight (h _ (by simp [scData, strD, DataW.weights, Tryz.underlying42, DataW.weightsEach])), ud_weights (H := H) fun n hn => h n (by simp only [scData, DataW.weights, Tryz.underlying42]; exact DataW.weights_mem_each (j := 2) (ts := [3, 9, 40]) rfl rfl n hn)⟩
theorem nd_weights {e : List Nd} {sp : List (DataW H)} (h : ∀ n, n ∈ (DataW.slice (e.map ndData) sp : DataW H).weights Tryz.prog 58 → n ≤ reachBytes) : NdOk e := fun x hx => by
  have hw : ∀ n, n ∈ (ndData x : DataW H).weights Tryz.prog 92 → n ≤ reachBytes := fun n hn => h n (slice_weights Tryz.underlying58 (List.mem_map_of_mem hx) hn)
  exact ⟨size_of_weight (hw _ (by simp [ndData, DataW.weights, Tryz.underlying92, DataW.weightsEach])), size_of_weight (hw _ (by simp [ndData, DataW.weights, Tryz.underlying92, DataW.weightsEach]))⟩
theorem cd_weights {x : CdM} {d : DataW H} (hd : CdR W x d) (h : ∀ n, n ∈ d.weights Tryz.prog 83 → n ≤ reachBytes) : NdOk x.e := by
  obtain ⟨_, _, _, b, s, rfl, hs⟩ := hd
  rcases hs with he | ⟨sp, rfl⟩
  · rw [he]; intro y hy; cases hy
  · exact nd_weights (H := H) fun n hn => h n (by simp only [DataW.weights, Tryz.underlying83]; exact DataW.weights_mem_each (j := 1) (ts := [4, 58]) rfl rfl n hn)
theorem PoR.sized {d : DataW H} {p : Po} {cs : List CdM} {A : Option Addr} {c : Nat} (hr : PoR W d p cs A c) (h : ∀ n, n ∈ d.weights Tryz.prog 45 → n ≤ reachBytes) : PoZ p ∧ CdsAt W W.heap.size A cs := by
  obtain ⟨b, s, rfl, hs⟩ := hr.dat
  have hm : ∀ n, n ∈ (DataW.weightsEach Tryz.prog [9, 4, 42, 42, 42, 43] [strD p.name, b, scData p.who, scData p.act, scData p.what, s]) → n ≤ reachBytes := fun n hn => h n (by simp only [DataW.weights, Tryz.underlying45]; exact hn)
  have g : ∀ {j : Nat} {t : TypeId} {d : DataW H}, [9, 4, 42, 42, 42, 43][j]? = some t → [strD p.name, b, scData p.who, scData p.act, scData p.what, s][j]? = some d → ∀ n, n ∈ d.weights Tryz.prog t → n ≤ reachBytes := fun ht hd n hn => hm n (DataW.weights_mem_each ht hd n hn)
  refine ⟨⟨size_of_weight (g (j := 0) rfl rfl _ (by simp [strD, DataW.weights])), sc_weights (H := H) (g (j := 2) rfl rfl), sc_weights (H := H) (g (j := 3) rfl rfl), sc_weights (H := H) (g (j := 4) rfl rfl)⟩, hr.sl, fun x hx => ?_⟩
  obtain ⟨e1, e2, e3⟩ := hr.each x hx
  refine ⟨e3, e1, e2, ?_⟩
  rcases hs with rfl | ⟨sp, ds, rfl, h5⟩
  · cases hx
  · obtain ⟨d, hd, hR⟩ := h5 x hx
    exact cd_weights hR fun n hn => g (j := 5) rfl rfl n (slice_weights Tryz.underlying43 hd hn)
/-- The reach of an argument. -/
theorem sized_at {ts : List TypeId} {ds : List (DataW H)} (h : (DataW.weightsEach Tryz.prog ts ds).all (· ≤ reachBytes) = true) {j : Nat} {t : TypeId} {d : DataW H} (ht : ts[j]? = some t) (hd : ds[j]? = some d) : ∀ n, n ∈ d.weights Tryz.prog t → n ≤ reachBytes := fun n hn => by
  have := List.all_eq_true.1 h n (DataW.weights_mem_each ht hd n hn)
  simpa using this
theorem policy_rec : Tryz.prog.readableRec 45 = true := by kernel_rfl
theorem policy_lt : 45 < Tryz.prog.types.size := of_decide_eq_true (by kernel_rfl)
theorem uid_rec : Tryz.prog.readableRec 40 = true := by kernel_rfl
theorem uid_lt : 40 < Tryz.prog.types.size := of_decide_eq_true (by kernel_rfl)
end
end Go.Proofs.YtbommoefpekalaaGreatDoor
