/-
  ARGUMENTS that are lists of nodes, opened: what the row's reading says of memory.
  Facts of the seat's program that each row asks.
-/
import Derived.Test.YtnhcjpmamgdeoaaGreatDoorP
import Derived.Test.YtnhcjpmamgdeoaaGreatDoorVal4
import Derived.Test.YtnhcjpmamgdeoaaGreatDoorProg
import Derived.Deep.Slices
import Derived.Deep.Fields
import Derived.ChangeSame
import Derived.SizedLaws
import Derived.ProofKit
import Derived.Test.YtnhcjpmamgdeoaaGreatDoorRowGA
namespace Go.Proofs.YtnhcjpmamgdeoaaGreatDoor
set_option maxRecDepth 100000
open Go.ChangeShapes Go.WideShapes Go.RowKit Go.Deep

/-- A node, as data. -/
def ndData {H : Type} (x : Nd) : DataW H := .agg [.lit (.int .i64 x.op), .lit (.int .i64 x.n), .lit (.string x.s.data.toList), .lit (.string x.t.data.toList)]
theorem cells_node : Tryz.prog.cellsOf 40 = 4 := by kernel_rfl

section
variable {H : Type} {enc : TypeId × Value → H} {W : World}
theorem node_trod {base : Nat} {spare : Nat → Bool} {held : Bool} {n : Nat} {cs : List Value} {y : DataW H × List MemPlace} (h : DataW.trod enc Tryz.prog W base spare held n 40 cs = some y) :
    ∃ x : Nd, cs = x.cells ∧ y.1 = ndData x := by
  obtain ⟨xs, m, _, hy, hlen, hxl, hf⟩ := DataW.trod_struct Tryz.underlying40 h
  rw [cells_node] at hlen
  match cs, hlen with
  | [c0, c1, c2, c3], _ =>
    match xs, hxl with
    | [y0, y1, y2, y3], _ =>
      have e0 : DataW.trod enc Tryz.prog W base spare held m 3 (([c0, c1, c2, c3].drop 0).take (Tryz.prog.cellsOf 3)) = some y0 := hf 0 _ rfl
      have e1 : DataW.trod enc Tryz.prog W base spare held m 3 (([c0, c1, c2, c3].drop 1).take (Tryz.prog.cellsOf 3)) = some y1 := hf 1 _ rfl
      have e2 : DataW.trod enc Tryz.prog W base spare held m 9 (([c0, c1, c2, c3].drop 2).take (Tryz.prog.cellsOf 9)) = some y2 := hf 2 _ rfl
      have e3 : DataW.trod enc Tryz.prog W base spare held m 9 (([c0, c1, c2, c3].drop 3).take (Tryz.prog.cellsOf 9)) = some y3 := hf 3 _ rfl
      have k3 : Tryz.prog.cellsOf 3 = 1 := by kernel_rfl
      have k9 : Tryz.prog.cellsOf 9 = 1 := by kernel_rfl
      simp only [k3, k9, List.drop_zero, List.drop_succ_cons, List.take_succ_cons, List.take_zero] at e0 e1 e2 e3
      obtain ⟨a0, q0, r0, _⟩ := DataW.trod_int Tryz.underlying3 e0
      obtain ⟨a1, q1, r1, _⟩ := DataW.trod_int Tryz.underlying3 e1
      obtain ⟨a2, q2, r2, _⟩ := DataW.trod_string Tryz.underlying9 e2
      obtain ⟨a3, q3, r3, _⟩ := DataW.trod_string Tryz.underlying9 e3
      simp only [List.cons.injEq, and_true] at q0 q1 q2 q3
      subst q0 q1 q2 q3 r0 r1 r2 r3
      exact ⟨⟨a0, a1, a2, a3⟩, rfl, by rw [hy]; rfl⟩

/-- An argument that is a list of nodes. -/
theorem open_nodes {base : Nat} {v : Value} {d : DataW H} {p : List MemPlace} (hv : Value.okWide Tryz.prog W .any base 24 v) (h : DataW.Trod enc Tryz.prog W 0 (fun _ => true) true 24 v d p) :
    ∃ (A : Option Addr) (xs : List Nd) (c : Nat), v = .slice A xs.length c ∧ xs.length ≤ c ∧ c ≤ 9223372036854775807 ∧ NdSl W W.heap.size A xs ∧ (xs = [] ∨ ∃ sp, d = .slice (xs.map ndData) sp) := by
  obtain ⟨a0, len, cap, rfl⟩ := okWide_slice Tryz.underlying24 hv
  obtain ⟨fuel, hf⟩ := h
  rcases open_slice Tryz.underlying24 hf with ⟨hcs, _⟩ | ⟨a, len', cap', m, n, D, Pl, hcs, _, hl, hm, hmm, hx, hi⟩
  · simp only [Value.cells, List.cons.injEq, and_true] at hcs
    injection hcs with h1 h2 h3
    subst h1 h2 h3
    exact ⟨none, [], 0, rfl, by simp, by omega, NdSl.nil _ _ _, .inl rfl⟩
  · simp only [Value.cells, List.cons.injEq, and_true] at hcs
    injection hcs with h1 h2 h3
    subst h1 h2 h3
    simp only [if_true] at hmm
    subst hmm
    have hel : ∀ i, i < m → ∃ x : Nd, D i = ndData x ∧ ∀ j u, x.cells[j]? = some u → W.cell? (a.add (i * 4 + j)) = some u := by
      intro i him
      obtain ⟨cs', hc, ht⟩ := hi i him
      rw [cells_node] at hc
      obtain ⟨x, rfl, hd⟩ := node_trod ht
      refine ⟨x, hd, fun j u hu => ?_⟩
      obtain ⟨_, _, hat⟩ := World.cells?_some hc
      have hj : j < 4 := (List.getElem?_eq_some_iff.1 hu).1
      have := hat j hj
      rw [add_add] at this
      rw [this, hu]
    have hxs : ∀ k, k ≤ m → ∃ xs : List Nd, xs.length = k ∧ (List.range k).map D = xs.map ndData ∧ ∀ i x, xs[i]? = some x → ∀ j u, x.cells[j]? = some u → W.cell? (a.add (i * 4 + j)) = some u := by
      intro k
      induction k with
      | zero => intro _; exact ⟨[], rfl, rfl, fun i x hx => by simp at hx⟩
      | succ k ih =>
        intro hk
        obtain ⟨xs, h1, h2, h3⟩ := ih (by omega)
        obtain ⟨x, hd, hc⟩ := hel k (by omega)
        refine ⟨xs ++ [x], by simp [h1], by rw [List.range_succ, List.map_append, List.map_append, h2]; simp [hd], fun i y hy => ?_⟩
        rcases Nat.lt_or_ge i xs.length with hlt | hge
        · rw [List.getElem?_append_left hlt] at hy; exact h3 i y hy
        · have : i = xs.length := by
            have := (List.getElem?_eq_some_iff.1 hy).1
            simp at this; omega
          subst this
          simp at hy
          subst hy
          rw [h1]; exact hc
    obtain ⟨xs, h1, h2, h3⟩ := hxs len hl
    subst h1
    refine ⟨some a, xs, m, rfl, hl, by unfold maxLen at hm; omega, fun hne => ?_, .inr ⟨_, by simp only [Prod.mk.injEq] at hx; rw [hx.1, h2]⟩⟩
    have h0 : 0 < xs.length := List.length_pos_iff.2 hne
    have hc0 := h3 0 xs[0] (List.getElem?_eq_getElem h0) 0 _ rfl
    have hsp : a.spot = none := by
      cases hs : a.spot with
      | none => rfl
      | some q =>
        simp [World.cell?, Addr.add, hs] at hc0
        split at hc0 <;> simp at hc0
    obtain ⟨b, o, sp⟩ := a
    simp only at hsp
    subst hsp
    have hadd : ∀ j, (⟨b, o, none⟩ : Addr).add j = ⟨b, o + j, none⟩ := fun j => by
      unfold Addr.add; split
      · subst_vars; rfl
      · rfl
    simp only [hadd] at h3 hc0
    refine ⟨b, o, rfl, World.block_lt_of_cell? W _ hc0, fun i x hx => ?_⟩
    have := h3 i x hx
    exact ⟨by have := this 0 _ rfl; simpa using this, by have := this 1 _ rfl; simpa [Nat.add_assoc] using this, by have := this 2 _ rfl; simpa [Nat.add_assoc] using this, by have := this 3 _ rfl; simpa [Nat.add_assoc] using this⟩

theorem weights_all {P : Program} {e : TypeId} {d : DataW H} {n : Nat} : ∀ {l : List (DataW H)}, d ∈ l → n ∈ d.weights P e → n ∈ DataW.weightsAll P e l
  | [], h, _ => by cases h
  | x :: l, h, hn => by
    simp only [DataW.weightsAll, List.mem_append]
    rcases List.mem_cons.1 h with rfl | h
    · exact .inl hn
    · exact .inr (weights_all h hn)
/-- The reach, of a list of nodes. -/
theorem sized_nodes {ts : List TypeId} {ds : List (DataW H)} (h : (DataW.weightsEach Tryz.prog ts ds).all (· ≤ reachBytes) = true) {j : Nat} {xs : List Nd} (ht : ts[j]? = some 24)
    (hd : xs = [] ∨ ∃ sp, ds[j]? = some (.slice (xs.map ndData) sp)) : NdOk xs := by
  intro x hx
  rcases hd with rfl | ⟨sp, hd⟩
  · cases hx
  · have hw : ∀ n, n ∈ (ndData x : DataW H).weights Tryz.prog 40 → n ≤ reachBytes := fun n hn => by
      have := List.all_eq_true.1 h n (DataW.weights_mem_each ht hd n (by
        simp only [DataW.weights, Tryz.underlying24, List.mem_cons, List.mem_append]
        exact .inr (.inl (weights_all (List.mem_map_of_mem hx) hn))))
      simpa using this
    have h1 := hw x.s.data.toList.length (by simp [ndData, DataW.weights, Tryz.underlying40, DataW.weightsEach])
    have h2 := hw x.t.data.toList.length (by simp [ndData, DataW.weights, Tryz.underlying40, DataW.weightsEach])
    rw [← ByteArray.toList_eq, toList_len] at h1 h2
    simp only [reachBytes] at h1 h2
    exact ⟨h1, h2⟩
end
end Go.Proofs.YtnhcjpmamgdeoaaGreatDoor
namespace Go.Proofs.YtnhcjpmamgdeoaaGreatDoor
open Go.ChangeShapes Go.WideShapes Go.ChangeAt Go.RowKit Go.WideMaps

theorem nodes_rec : Tryz.prog.readableRec 24 = true := by kernel_rfl
theorem nodes_lt : 24 < Tryz.prog.types.size := of_decide_eq_true (by kernel_rfl)
end Go.Proofs.YtnhcjpmamgdeoaaGreatDoor
