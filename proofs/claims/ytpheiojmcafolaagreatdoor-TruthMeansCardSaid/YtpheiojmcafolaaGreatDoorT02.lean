/-
  THE WALKS: the reader of a value's nodes.
  ARGUMENTS that are lists of any kind of values, opened: what the row's reading says of memory. Facts of the seat's program that each row asks.
  ARGUMENTS that are lists of nodes, opened: what the row's reading says of memory. Facts of the seat's program that each row asks.
  ARGUMENTS that are lists of texts, opened.
  PLAIN WORDS: the pieces of an expression; other names. PLAIN LAW for MoveApart. PLAIN LAW for MoveApart. PLAIN WORDS: pieces in the order of their names; a name that stands there twice. PLAIN WORDS: the order of lists of nodes; values, piece by piece. PLAIN WORDS: values, piece by piece; a value and what the reader of values says. PLAIN LAW: what is moved stays what it is; there and back.
  PLAIN WORDS: formulas: what one is, what it tells, its table.
  PLAIN LAWS: a formula is an expression.
  PLAIN WORDS: stores, requests, and what an expression's value is.
  PLAIN LAWS: values are never empty, and their strings are short.
  PLAIN LAWS: an expression's value, piece by piece.
  PLAIN LAWS: what an expression's value is, is a value.
-/
import Derived.Test.YtpheiojmcafolaaGreatDoorT01
import Derived.Deep.QuietTactic
import Derived.BigQuiet
import Derived.Test.YtpheiojmcafolaaGreatDoorProg
import Derived.Deep.Slices
import Derived.Deep.Fields
import Derived.ChangeSame
import Derived.SizedLaws
import Derived.ProofKit
import Derived.Sort.Walk0
import Derived.Sort.Statements
import Derived.Shelf.SlSortCmp.Insertion
namespace Go.Proofs.YtpheiojmcafolaaGreatDoor
open Go.RowKit
def rdr (A : Option Addr) (n c i : Nat) : Array Value := #[.slice A n c, .int .i64 i]
def wrongV : List PanicEntry := [{ v := .iface 157 (.agg #[]), recovered := false }]
theorem rdr_step {w : World} {rb : Nat} {A : Option Addr} {n c i : Nat} {T : TypeId} (h : Blk w rb T (rdr A n c i)) : Blk (w.setCell ⟨rb, 1, none⟩ (.int .i64 ((i : Int) + 1))) rb T (rdr A n c (i + 1)) := h.set 1 _
theorem NdSl.only {w w' : World} {B rb : Nat} {A : Option Addr} {xs : List Nd} (h : NdSl w rb A xs) (ho : Only B rb w w') (hB : rb ≤ B) : NdSl w' rb A xs := h.keep fun p hp => ho.cell (by omega) (by omega)
theorem NdSl.piece {w : World} {B b o : Nat} {e : List Nd} (h : NdSl w B (some ⟨b, o, none⟩) e) (i j : Nat) : NdSl w B (some ⟨b, o + i * 4, none⟩) (piece e i j) := fun hne => by
  have he : e ≠ [] := by rintro rfl; simp [Proofs.YtpheiojmcafolaaGreatDoor.piece] at hne
  obtain ⟨b', o', h1, hb, hc⟩ := h he
  injection h1 with h1; injection h1 with h1 h2; subst h1 h2
  refine ⟨b, o + i * 4, rfl, hb, fun k x hx => ?_⟩
  have := hc (i + k) x (by
    simp only [Proofs.YtpheiojmcafolaaGreatDoor.piece, List.getElem?_take] at hx
    split at hx
    · rwa [List.getElem?_drop] at hx
    · cases hx)
  rwa [show o + i * 4 + k * 4 = o + (i + k) * 4 from by omega]
/-- What 'part' owes at one place with so much fuel. -/
def PartOk (e : List Nd) (f i : Nat) : Prop := ∀ (w : World) (rb : Nat) (A : Option Addr) (c : Nat), 2 * (e.length - i) ≤ f → i ≤ e.length → e.length ≤ c → c ≤ 9223372036854775807 → NdOk e →
  Blk w rb 160 (rdr A e.length c i) → NdSl w rb A e →
  (∀ j, vGo e f .one i = some j → Calls Tryz.prog 96 #[.pointer (some ⟨rb, 0, none⟩)] w fun r w' => ∃ A' c', r = .returned (.slice A' (piece e i j).length c') ∧ NdSl w' rb A' (piece e i j) ∧ Blk w' rb 160 (rdr A e.length c j) ∧ Only w.heap.size rb w w') ∧
  (vGo e f .one i = none → Calls Tryz.prog 96 #[.pointer (some ⟨rb, 0, none⟩)] w fun r w' => r = .panicked wrongV ∧ Only w.heap.size rb w w')

set_option maxRecDepth 100000 in
set_option maxHeartbeats 1600000 in
theorem part_out (e : List Nd) (f i : Nat) (h : e.length ≤ i) : PartOk e f i := by
  intro w rb A c hf hi hc hcm hok hblk hsl
  have hrb := hblk.lt
  have k0 : w.cell? ⟨rb, 0, none⟩ = some (.slice A e.length c) := hblk.cell 0
  have k1 : w.cell? ⟨rb, 1, none⟩ = some (.int .i64 i) := hblk.cell 1
  have z1 : w.frozen? ⟨rb, 1, none⟩ = false := hblk.frozen 1
  have HN : Hid (e[i]? = none) := List.getElem?_eq_none h
  have HB := Lib.hid hblk
  have HS := Lib.hid hsl
  clear hblk hsl
  refine ⟨fun j hj => ?_, fun hj => ?_⟩
  · have hn := HN.out
    cases f <;> simp [vGo, hn] at hj
  · clear hj
    go_enter Tryz.func96, Tryz.ntmps96
    go_wp2_with fail
    exact ⟨rfl, rfl, Only.refl _ _ _⟩

set_option maxRecDepth 100000 in
set_option maxHeartbeats 1600000 in
theorem part_bad (e : List Nd) (f i : Nat) (x : Nd) (hx : e[i]? = some x) (hsh : shapedV x = false) : PartOk e (f + 1) i := by
  intro w rb A c hf hi hc hcm hok hblk hsl
  have hrb := hblk.lt
  have k0 : w.cell? ⟨rb, 0, none⟩ = some (.slice A e.length c) := hblk.cell 0
  have k1 : w.cell? ⟨rb, 1, none⟩ = some (.int .i64 i) := hblk.cell 1
  have z1 : w.frozen? ⟨rb, 1, none⟩ = false := hblk.frozen 1
  have hil : i < e.length := (List.getElem?_eq_some_iff.1 hx).1
  obtain ⟨b, o, rfl, hb, hcs⟩ := hsl.at_ hil
  obtain ⟨d0, d1, d2, d3⟩ := hcs i x hx
  obtain ⟨hxs, hxt⟩ := hok x (List.mem_of_getElem? hx)
  have hbw : b < w.heap.size := by omega
  have HX := Lib.hid hx
  have HB := Lib.hid hblk
  have HS := Lib.hid hsl
  have HOK := Lib.hid hok
  clear hx hblk hsl hcs hok
  refine ⟨fun j hj => ?_, fun hj => ?_⟩
  · have hn := HX.out
    simp [vGo, hn, hsh] at hj
  · clear hj
    go_enter Tryz.func96, Tryz.ntmps96
    go_wp2_with (go_at_call 129; refine (val_shaped x.op x.n x.s x.t _ hxs hxt).mono ?_; rintro r w1 ⟨rfl, hb1⟩)
    exact ⟨rfl, rfl, Only.of_below hb1 (Nat.le_refl _)⟩

set_option maxRecDepth 100000 in
set_option maxHeartbeats 1600000 in
theorem part_fld (e : List Nd) (f i : Nat) (x : Nd) (hx : e[i]? = some x) (hsh : shapedV x = true) (hop : x.op = 7) : PartOk e (f + 1) i := by
  intro w rb A c hf hi hc hcm hok hblk hsl
  have hrb := hblk.lt
  have k0 : w.cell? ⟨rb, 0, none⟩ = some (.slice A e.length c) := hblk.cell 0
  have k1 : w.cell? ⟨rb, 1, none⟩ = some (.int .i64 i) := hblk.cell 1
  have z1 : w.frozen? ⟨rb, 1, none⟩ = false := hblk.frozen 1
  have hil : i < e.length := (List.getElem?_eq_some_iff.1 hx).1
  obtain ⟨b, o, rfl, hb, hcs⟩ := hsl.at_ hil
  obtain ⟨d0, d1, d2, d3⟩ := hcs i x hx
  obtain ⟨hxs, hxt⟩ := hok x (List.mem_of_getElem? hx)
  have hbw : b < w.heap.size := by omega
  have HX := Lib.hid hx
  have HB := Lib.hid hblk
  have HS := Lib.hid hsl
  have HOK := Lib.hid hok
  clear hx hblk hsl hcs hok
  refine ⟨fun j hj => ?_, fun hj => ?_⟩
  · have hn := HX.out
    simp [vGo, hn, hsh, hop] at hj
  · clear hj
    have HOP := Lib.hid hop
    have p5 : (x.op == 5) = false := by simp [hop]
    have p6 : (x.op == 6) = false := by simp [hop]
    have p7 : (x.op == 7) = true := by simp [hop]
    clear hop
    go_enter Tryz.func96, Tryz.ntmps96
    go_wp2_with (go_at_call 129; refine (val_shaped x.op x.n x.s x.t _ hxs hxt).mono ?_; rintro r w1 ⟨rfl, hb1⟩; obtain ⟨hcc, hff⟩ := bcell hb1; have g1 : rb < w1.heap.size := Nat.lt_of_lt_of_le hrb hb1.size)
    have o1 := Only.of_below (g := rb) hb1 (Nat.le_refl _)
    have hz1 := hb1.size
    exact ⟨rfl, rfl, by (repeat (first | assumption | exact Only.refl _ _ _ | apply Only.drew | apply Only.drewN | (refine Only.alloc ?_ (by first | exact Nat.le_refl _ | omega | (simp; done) | (simp; omega)) _) | (refine Only.setCell ?_ (by first | exact .inl rfl | exact .inr (Nat.le_refl _) | exact .inr (by first | omega | (simp; omega))) _)))⟩

set_option maxRecDepth 100000 in
set_option maxHeartbeats 1600000 in
theorem part_leaf (e : List Nd) (f i : Nat) (x : Nd) (hx : e[i]? = some x) (hsh : shapedV x = true) (h5 : ¬ x.op = 5) (h6 : ¬ x.op = 6) (h7 : ¬ x.op = 7) : PartOk e (f + 1) i := by
  intro w rb A c hf hi hc hcm hok hblk hsl
  have hrb := hblk.lt
  have k0 : w.cell? ⟨rb, 0, none⟩ = some (.slice A e.length c) := hblk.cell 0
  have k1 : w.cell? ⟨rb, 1, none⟩ = some (.int .i64 i) := hblk.cell 1
  have z1 : w.frozen? ⟨rb, 1, none⟩ = false := hblk.frozen 1
  have hil : i < e.length := (List.getElem?_eq_some_iff.1 hx).1
  obtain ⟨b, o, rfl, hb, hcs⟩ := hsl.at_ hil
  obtain ⟨d0, d1, d2, d3⟩ := hcs i x hx
  obtain ⟨hxs, hxt⟩ := hok x (List.mem_of_getElem? hx)
  have hbw : b < w.heap.size := by omega
  have HX := Lib.hid hx
  have HB := Lib.hid hblk
  have HS := Lib.hid hsl
  have HOK := Lib.hid hok
  clear hx hblk hsl hcs hok
  have HV : Hid (vGo e (f + 1) .one i = some (i + 1)) := by
    have hn := HX.out
    show _ = _
    simp [vGo, hn, hsh, h5, h6, h7]
  refine ⟨fun j hj => ?_, fun hj => ?_⟩
  · have hji : j = i + 1 := by rw [HV.out] at hj; injection hj with hj; exact hj.symm
    subst hji
    clear hj
    have p5 : (x.op == 5) = false := by simp [h5]
    have p6 : (x.op == 6) = false := by simp [h6]
    have p7 : (x.op == 7) = false := by simp [h7]
    go_enter Tryz.func96, Tryz.ntmps96
    go_wp2_with (go_at_call 129; refine (val_shaped x.op x.n x.s x.t _ hxs hxt).mono ?_; rintro r w1 ⟨rfl, hb1⟩; obtain ⟨hcc, hff⟩ := bcell hb1; have g1 : rb < w1.heap.size := Nat.lt_of_lt_of_le hrb hb1.size)
    go_quiet (fail)
    go_wp2
    go_ret
    have o1 := Only.of_below (g := rb) hb1 (Nat.le_refl _)
    have hz1 := hb1.size
    have o2 : Only w.heap.size rb w (((w1.setCell ⟨rb, 1, none⟩ (.int .i64 ((i : Int) + 1))).alloc (.cells #[.int .i64 x.op, .int .i64 x.n, .string x.s, .string x.t] 37))) := by (repeat (first | assumption | exact Only.refl _ _ _ | apply Only.drew | apply Only.drewN | (refine Only.alloc ?_ (by first | exact Nat.le_refl _ | omega | (simp; done) | (simp; omega)) _) | (refine Only.setCell ?_ (by first | exact .inl rfl | exact .inr (Nat.le_refl _) | exact .inr (by first | omega | (simp; omega))) _)))
    refine ⟨some ⟨b, o + i * 4, none⟩, c - i, by rw [piece_len hil, show i + 1 - i = 1 from by omega]; rfl, ?_, ?_, ?_⟩
    · exact ((HS.out.piece i (i + 1)).only (o2.drewN _) (Nat.le_of_lt hrb))
    · exact ((rdr_step (HB.out.below hb1 hrb)).alloc _).drewN _
    · exact o2.drewN _
  · have hn := HV.out
    rw [hj] at hn; cases hn
end Go.Proofs.YtpheiojmcafolaaGreatDoor
namespace Go.Proofs.YtpheiojmcafolaaGreatDoor
set_option maxRecDepth 100000
open Go.ChangeShapes Go.WideShapes Go.RowKit Go.Deep
section
variable {H : Type} {enc : TypeId × Value → H} {W : World}
theorem open_gen {α : Type} {en : α → List Value} {k : Nat} {data : α → DataW H} {Good : α → Prop} {t e : TypeId} (ht : Tryz.prog.underlying t = some (.slice e)) (ce : Tryz.prog.cellsOf e = k) (he : EncOk en k)
    (hel : ∀ n cs y, DataW.trod enc Tryz.prog W 0 (fun _ => true) true n e cs = some y → ∃ x, cs = en x ∧ y.1 = data x ∧ Good x) {fuel : Nat} {cs : List Value} {y : DataW H × List MemPlace}
    (hf : DataW.trod enc Tryz.prog W 0 (fun _ => true) true fuel t cs = some y) :
    ∃ (A : Option Addr) (xs : List α) (c : Nat), cs = [.slice A xs.length c] ∧ xs.length ≤ c ∧ c ≤ 9223372036854775807 ∧ SlG en k W W.heap.size A xs ∧ (∀ x ∈ xs, Good x) ∧ (xs = [] ∨ ∃ sp, y.1 = .slice (xs.map data) sp) := by
  rcases open_slice ht hf with ⟨hcs, _⟩ | ⟨a, len', cap', m, n, D, Pl, hcs, _, hl, hm, hmm, hx, hi⟩
  · exact ⟨none, [], 0, hcs, by simp, by omega, SlG.nil _ _ _, by simp, .inl rfl⟩
  · simp only [if_true] at hmm
    subst hmm
    have hel' : ∀ i, i < m → ∃ x : α, D i = data x ∧ Good x ∧ ∀ j u, (en x)[j]? = some u → W.cell? (a.add (i * k + j)) = some u := by
      intro i him
      obtain ⟨cs', hc, ht'⟩ := hi i him
      rw [ce] at hc
      obtain ⟨x, rfl, hd, hg⟩ := hel _ _ _ ht'
      refine ⟨x, hd, hg, fun j u hu => ?_⟩
      obtain ⟨_, _, hat⟩ := World.cells?_some hc
      have hj : j < k := by have := (List.getElem?_eq_some_iff.1 hu).1; rwa [he.len] at this
      have := hat j hj
      rw [add_add] at this
      rw [this, hu]
    have hxs : ∀ r, r ≤ m → ∃ xs : List α, xs.length = r ∧ (List.range r).map D = xs.map data ∧ (∀ x ∈ xs, Good x) ∧ ∀ i x, xs[i]? = some x → ∀ j u, (en x)[j]? = some u → W.cell? (a.add (i * k + j)) = some u := by
      intro r
      induction r with
      | zero => intro _; exact ⟨[], rfl, rfl, by simp, fun i x hx => by simp at hx⟩
      | succ r ih =>
        intro hk
        obtain ⟨xs, h1, h2, h3, h4⟩ := ih (by omega)
        obtain ⟨x, hd, hg, hc⟩ := hel' r (by omega)
        refine ⟨xs ++ [x], by simp [h1], by rw [List.range_succ, List.map_append, List.map_append, h2]; simp [hd], fun z hz => ?_, fun i y hy => ?_⟩
        · rcases List.mem_append.1 hz with hz | hz
          · exact h3 z hz
          · rw [List.mem_singleton] at hz; subst hz; exact hg
        · rcases Nat.lt_or_ge i xs.length with hlt | hge
          · rw [List.getElem?_append_left hlt] at hy; exact h4 i y hy
          · have : i = xs.length := by
              have := (List.getElem?_eq_some_iff.1 hy).1
              simp at this; omega
            subst this
            simp at hy
            subst hy
            rw [h1]; exact hc
    obtain ⟨xs, h1, h2, h3, h4⟩ := hxs len' hl
    subst h1
    refine ⟨some a, xs, m, hcs, hl, by unfold maxLen at hm; omega, fun hne => ?_, h3, .inr ⟨_, by rw [hx, ← h2]⟩⟩
    have h0 : 0 < xs.length := List.length_pos_iff.2 hne
    have hen : 0 < (en xs[0]).length := by rw [he.len]; exact he.pos
    have hc0 := h4 0 xs[0] (List.getElem?_eq_getElem h0) 0 _ (List.getElem?_eq_getElem hen)
    have hsp : a.spot = none := by
      cases hs : a.spot with
      | none => rfl
      | some q =>
        simp [World.cell?, Addr.add, hs] at hc0
        split at hc0 <;> simp at hc0
    obtain ⟨b, o, sp⟩ := a
    simp only at hsp
    subst hsp
    simp only [add_none] at h4 hc0
    refine ⟨b, o, rfl, World.block_lt_of_cell? W _ hc0, fun i x hx j u hu => ?_⟩
    rw [Nat.add_assoc]
    exact h4 i x hx j u hu
theorem gen_weights {P : Program} {e : TypeId} {d : DataW H} {n : Nat} : ∀ {l : List (DataW H)}, d ∈ l → n ∈ d.weights P e → n ∈ DataW.weightsAll P e l
  | [], h, _ => by cases h
  | x :: l, h, hn => by
    simp only [DataW.weightsAll, List.mem_append]
    rcases List.mem_cons.1 h with rfl | h
    · exact .inl hn
    · exact .inr (gen_weights h hn)
/-- The reach, of a list. -/
theorem slice_weights {t e : TypeId} (ht : Tryz.prog.underlying t = some (.slice e)) {xs sp : List (DataW H)} {d : DataW H} {n : Nat} (hx : d ∈ xs) (hn : n ∈ d.weights Tryz.prog e) :
    n ∈ (DataW.slice xs sp).weights Tryz.prog t := by
  simp only [DataW.weights, ht, List.mem_cons, List.mem_append]
  exact .inr (.inl (gen_weights hx hn))
end
end Go.Proofs.YtpheiojmcafolaaGreatDoor
namespace Go.Proofs.YtpheiojmcafolaaGreatDoor
open Go.ChangeShapes Go.WideShapes Go.ChangeAt Go.RowKit Go.WideMaps
theorem Tryz.own : ownKnob Tryz.prog.godebug = none := by kernel_rfl
theorem Tryz.laidOut : laidOutB Tryz.prog = true := by kernel_rfl
end Go.Proofs.YtpheiojmcafolaaGreatDoor
namespace Go.Proofs.YtpheiojmcafolaaGreatDoor
set_option maxRecDepth 100000
open Go.ChangeShapes Go.WideShapes Go.RowKit Go.Deep
/-- A node, as data. -/
def ndData {H : Type} (x : Nd) : DataW H := .agg [.lit (.int .i64 x.op), .lit (.int .i64 x.n), .lit (.string x.s.data.toList), .lit (.string x.t.data.toList)]
theorem cells_node : Tryz.prog.cellsOf 37 = 4 := by kernel_rfl

section
variable {H : Type} {enc : TypeId × Value → H} {W : World}
theorem node_trod {base : Nat} {spare : Nat → Bool} {held : Bool} {n : Nat} {cs : List Value} {y : DataW H × List MemPlace} (h : DataW.trod enc Tryz.prog W base spare held n 37 cs = some y) :
    ∃ x : Nd, cs = x.cells ∧ y.1 = ndData x := by
  obtain ⟨xs, m, _, hy, hlen, hxl, hf⟩ := DataW.trod_struct Tryz.underlying37 h
  rw [cells_node] at hlen
  match cs, hlen with
  | [c0, c1, c2, c3], _ =>
    match xs, hxl with
    | [y0, y1, y2, y3], _ =>
      have e0 : DataW.trod enc Tryz.prog W base spare held m 3 (([c0, c1, c2, c3].drop 0).take (Tryz.prog.cellsOf 3)) = some y0 := hf 0 _ rfl
      have e1 : DataW.trod enc Tryz.prog W base spare held m 3 (([c0, c1, c2, c3].drop 1).take (Tryz.prog.cellsOf 3)) = some y1 := hf 1 _ rfl
      have e2 : DataW.trod enc Tryz.prog W base spare held m 9 (([c0, c1, c2, c3].drop 2).take (Tryz.prog.cellsOf 9)) = some y2 := hf 2 _ rfl
      have e3 : DataW.trod enc Tryz.prog W base spare held m 9 (([c0, c1, c2, c3].drop 3).take (Tryz.prog.cellsOf 9)) = some y3 := hf 3 _ rfl
      have k3 : Tryz.prog.cellsOf 3 = 1 := by kernel_rfl
      have k9 : Tryz.prog.cellsOf 9 = 1 := by kernel_rfl
      simp only [k3, k9, List.drop_zero, List.drop_succ_cons, List.take_succ_cons, List.take_zero] at e0 e1 e2 e3
      obtain ⟨a0, q0, r0, _⟩ := DataW.trod_int Tryz.underlying3 e0
      obtain ⟨a1, q1, r1, _⟩ := DataW.trod_int Tryz.underlying3 e1
      obtain ⟨a2, q2, r2, _⟩ := DataW.trod_string Tryz.underlying9 e2
      obtain ⟨a3, q3, r3, _⟩ := DataW.trod_string Tryz.underlying9 e3
      simp only [List.cons.injEq, and_true] at q0 q1 q2 q3
      subst q0 q1 q2 q3 r0 r1 r2 r3
      exact ⟨⟨a0, a1, a2, a3⟩, rfl, by rw [hy]; rfl⟩

/-- An argument that is a list of nodes. -/
theorem open_nodes {base : Nat} {v : Value} {d : DataW H} {p : List MemPlace} (hv : Value.okWide Tryz.prog W .any base 22 v) (h : DataW.Trod enc Tryz.prog W 0 (fun _ => true) true 22 v d p) :
    ∃ (A : Option Addr) (xs : List Nd) (c : Nat), v = .slice A xs.length c ∧ xs.length ≤ c ∧ c ≤ 9223372036854775807 ∧ NdSl W W.heap.size A xs ∧ (xs = [] ∨ ∃ sp, d = .slice (xs.map ndData) sp) := by
  obtain ⟨a0, len, cap, rfl⟩ := okWide_slice Tryz.underlying22 hv
  obtain ⟨fuel, hf⟩ := h
  rcases open_slice Tryz.underlying22 hf with ⟨hcs, _⟩ | ⟨a, len', cap', m, n, D, Pl, hcs, _, hl, hm, hmm, hx, hi⟩
  · simp only [Value.cells, List.cons.injEq, and_true] at hcs
    injection hcs with h1 h2 h3
    subst h1 h2 h3
    exact ⟨none, [], 0, rfl, by simp, by omega, NdSl.nil _ _ _, .inl rfl⟩
  · simp only [Value.cells, List.cons.injEq, and_true] at hcs
    injection hcs with h1 h2 h3
    subst h1 h2 h3
    simp only [if_true] at hmm
    subst hmm
    have hel : ∀ i, i < m → ∃ x : Nd, D i = ndData x ∧ ∀ j u, x.cells[j]? = some u → W.cell? (a.add (i * 4 + j)) = some u := by
      intro i him
      obtain ⟨cs', hc, ht⟩ := hi i him
      rw [cells_node] at hc
      obtain ⟨x, rfl, hd⟩ := node_trod ht
      refine ⟨x, hd, fun j u hu => ?_⟩
      obtain ⟨_, _, hat⟩ := World.cells?_some hc
      have hj : j < 4 := (List.getElem?_eq_some_iff.1 hu).1
      have := hat j hj
      rw [add_add] at this
      rw [this, hu]
    have hxs : ∀ k, k ≤ m → ∃ xs : List Nd, xs.length = k ∧ (List.range k).map D = xs.map ndData ∧ ∀ i x, xs[i]? = some x → ∀ j u, x.cells[j]? = some u → W.cell? (a.add (i * 4 + j)) = some u := by
      intro k
      induction k with
      | zero => intro _; exact ⟨[], rfl, rfl, fun i x hx => by simp at hx⟩
      | succ k ih =>
        intro hk
        obtain ⟨xs, h1, h2, h3⟩ := ih (by omega)
        obtain ⟨x, hd, hc⟩ := hel k (by omega)
        refine ⟨xs ++ [x], by simp [h1], by rw [List.range_succ, List.map_append, List.map_append, h2]; simp [hd], fun i y hy => ?_⟩
        rcases Nat.lt_or_ge i xs.length with hlt | hge
        · rw [List.getElem?_append_left hlt] at hy; exact h3 i y hy
        · have : i = xs.length := by
            have := (List.getElem?_eq_some_iff.1 hy).1
            simp at this; omega
          subst this
          simp at hy
          subst hy
          rw [h1]; exact hc
    obtain ⟨xs, h1, h2, h3⟩ := hxs len hl
    subst h1
    refine ⟨some a, xs, m, rfl, hl, by unfold maxLen at hm; omega, fun hne => ?_, .inr ⟨_, by simp only [Prod.mk.injEq] at hx; rw [hx.1, h2]⟩⟩
    have h0 : 0 < xs.length := List.length_pos_iff.2 hne
    have hc0 := h3 0 xs[0] (List.getElem?_eq_getElem h0) 0 _ rfl
    have hsp : a.spot = none := by
      cases hs : a.spot with
      | none => rfl
      | some q =>
        simp [World.cell?, Addr.add, hs] at hc0
        split at hc0 <;> simp at hc0
    obtain ⟨b, o, sp⟩ := a
    simp only at hsp
    subst hsp
    have hadd : ∀ j, (⟨b, o, none⟩ : Addr).add j = ⟨b, o + j, none⟩ := fun j => by
      unfold Addr.add; split
      · subst_vars; rfl
      · rfl
    simp only [hadd] at h3 hc0
    refine ⟨b, o, rfl, World.block_lt_of_cell? W _ hc0, fun i x hx => ?_⟩
    have := h3 i x hx
    exact ⟨by have := this 0 _ rfl; simpa using this, by have := this 1 _ rfl; simpa [Nat.add_assoc] using this, by have := this 2 _ rfl; simpa [Nat.add_assoc] using this, by have := this 3 _ rfl; simpa [Nat.add_assoc] using this⟩

theorem weights_all {P : Program} {e : TypeId} {d : DataW H} {n : Nat} : ∀ {l : List (DataW H)}, d ∈ l → n ∈ d.weights P e → n ∈ DataW.weightsAll P e l
  | [], h, _ => by cases h
  | x :: l, h, hn => by
    simp only [DataW.weightsAll, List.mem_append]
    rcases List.mem_cons.1 h with rfl | h
    · exact .inl hn
    · exact .inr (weights_all h hn)
/-- The reach, of a list of nodes. -/
theorem sized_nodes {ts : List TypeId} {ds : List (DataW H)} (h : (DataW.weightsEach Tryz.prog ts ds).all (· ≤ reachBytes) = true) {j : Nat} {xs : List Nd} (ht : ts[j]? = some 22)
    (hd : xs = [] ∨ ∃ sp, ds[j]? = some (.slice (xs.map ndData) sp)) : NdOk xs := by
  intro x hx
  rcases hd with rfl | ⟨sp, hd⟩
  · cases hx
  · have hw : ∀ n, n ∈ (ndData x : DataW H).weights Tryz.prog 37 → n ≤ reachBytes := fun n hn => by
      have := List.all_eq_true.1 h n (DataW.weights_mem_each ht hd n (by
        simp only [DataW.weights, Tryz.underlying22, List.mem_cons, List.mem_append]
        exact .inr (.inl (weights_all (List.mem_map_of_mem hx) hn))))
      simpa using this
    have h1 := hw x.s.data.toList.length (by simp [ndData, DataW.weights, Tryz.underlying37, DataW.weightsEach])
    have h2 := hw x.t.data.toList.length (by simp [ndData, DataW.weights, Tryz.underlying37, DataW.weightsEach])
    rw [← ByteArray.toList_eq, toList_len] at h1 h2
    simp only [reachBytes] at h1 h2
    exact ⟨h1, h2⟩
end
end Go.Proofs.YtpheiojmcafolaaGreatDoor
namespace Go.Proofs.YtpheiojmcafolaaGreatDoor
open Go.ChangeShapes Go.WideShapes Go.ChangeAt Go.RowKit Go.WideMaps
theorem nodes_rec : Tryz.prog.readableRec 22 = true := by kernel_rfl
theorem nodes_lt : 22 < Tryz.prog.types.size := of_decide_eq_true (by kernel_rfl)
end Go.Proofs.YtpheiojmcafolaaGreatDoor
namespace Go.Proofs.YtpheiojmcafolaaGreatDoor
set_option maxRecDepth 100000
open Go.ChangeShapes Go.WideShapes Go.RowKit Go.Deep Go.Sort
def stC (l : List UInt8) : List Value := [encStr l]
theorem stC_ok : EncOk stC 1 := ⟨fun _ => rfl, by omega, fun x u hu => by
  simp only [stC, List.mem_cons, List.not_mem_nil, or_false] at hu
  subst hu; rfl⟩
theorem cells_strS : Tryz.prog.cellsOf 9 = 1 := by kernel_rfl
section
variable {H : Type} {enc : TypeId × Value → H} {W : World}
theorem str_trod {base : Nat} {spare : Nat → Bool} {held : Bool} {n : Nat} {cs : List Value} {y : DataW H × List MemPlace} (h : DataW.trod enc Tryz.prog W base spare held n 9 cs = some y) :
    ∃ l : List UInt8, cs = stC l ∧ y.1 = .lit (.string l) ∧ True := by
  obtain ⟨a, q, r, _⟩ := DataW.trod_string Tryz.underlying9 h
  exact ⟨a.toList, by rw [q, stC, encStr_of], by rw [r, ByteArray.toList_eq], trivial⟩
/-- An argument that is a list of texts. -/
theorem open_strs {base : Nat} {v : Value} {d : DataW H} {p : List MemPlace} (hv : Value.okWide Tryz.prog W .any base 23 v) (h : DataW.Trod enc Tryz.prog W 0 (fun _ => true) true 23 v d p) :
    ∃ (A : Option Addr) (xs : List (List UInt8)) (c : Nat), v = .slice A xs.length c ∧ xs.length ≤ c ∧ c ≤ 9223372036854775807 ∧ StrSl W W.heap.size A xs ∧ (xs = [] ∨ ∃ sp, d = .slice (xs.map fun l => .lit (.string l)) sp) := by
  obtain ⟨a0, len, cap, rfl⟩ := okWide_slice Tryz.underlying23 hv
  obtain ⟨fuel, hf⟩ := h
  obtain ⟨A, xs, c, hcs, h1, h2, h3, _, h5⟩ := open_gen Tryz.underlying23 cells_strS stC_ok (fun _ _ _ h => str_trod h) hf
  refine ⟨A, xs, c, by simpa [Value.cells] using hcs, h1, h2, fun hne => ?_, h5⟩
  obtain ⟨b, o, e, hb, hc⟩ := h3 hne
  refine ⟨b, o, e, hb, fun i l hl => ?_⟩
  have := hc i l hl 0 _ rfl
  rwa [Nat.mul_one, Nat.add_zero] at this
theorem sized_strs {ts : List TypeId} {ds : List (DataW H)} (h : (DataW.weightsEach Tryz.prog ts ds).all (· ≤ reachBytes) = true) {j : Nat} {xs : List (List UInt8)} (ht : ts[j]? = some 23)
    (hd : xs = [] ∨ ∃ sp, ds[j]? = some (.slice (xs.map fun l => .lit (.string l)) sp)) : ∀ l ∈ xs, l.length ≤ 140737488351232 := by
  intro l hl
  rcases hd with rfl | ⟨sp, hd⟩
  · cases hl
  · have hw : ∀ n, n ∈ (DataW.lit (H := H) (.string l)).weights Tryz.prog 9 → n ≤ reachBytes := fun n hn => by
      have hm : DataW.lit (H := H) (.string l) ∈ xs.map fun l => DataW.lit (H := H) (.string l) := List.mem_map.2 ⟨l, hl, rfl⟩
      have := List.all_eq_true.1 h n (DataW.weights_mem_each ht hd n (slice_weights Tryz.underlying23 hm hn))
      simpa using this
    have h1 := hw l.length (by simp [DataW.weights])
    simp only [reachBytes] at h1
    exact h1
end
theorem strs_rec : Tryz.prog.readableRec 23 = true := by kernel_rfl
theorem strs_lt : 23 < Tryz.prog.types.size := of_decide_eq_true (by kernel_rfl)
end Go.Proofs.YtpheiojmcafolaaGreatDoor
namespace Go.Proofs.YtpheiojmcafolaaGreatDoor
open Go.RowKit
def headS (p : List Nd) : ByteArray := (p.head?.map Nd.s).getD ⟨#[]⟩
/-- A list of nodes, piece by piece. -/
def kidsGo : Nat → List Nd → List (List Nd)
  | 0, _ => []
  | _ + 1, [] => []
  | k + 1, x :: l =>
    match skP (x :: l) 1 0 with
    | some j => (x :: l).take j :: kidsGo k ((x :: l).drop j)
    | none => []
/-- So many expressions, one behind the other; of a Rec's, the names rise. -/
def ExK : Bool → ByteArray → List (List Nd) → Prop
  | _, _, [] => True
  | r, l, p :: ps => Ex (.one r) p ∧ (r = true → sLate l (headS p) = false) ∧ ExK r (if r = true then headS p else l) ps
theorem ex_ne {b : Bool} {p : List Nd} (h : Ex (.one b) p) : ∃ x xs, p = x :: xs ∧ shapedT x = true ∧ (x.op == 7) = b := by
  cases h with
  | one n body fld hs h7 hb => exact ⟨n, body, rfl, hs, h7⟩
theorem ex_pieces {t : BTag} {xs : List Nd} (h : Ex t xs) : match t with
    | .one _ => True
    | .more c r l => ∃ ps : List (List Nd), ps.length = c ∧ xs = ps.flatten ∧ ExK r l ps := by
  induction h with
  | one n body fld hs h7 hb ih => trivial
  | nil r l => exact ⟨[], rfl, rfl, trivial⟩
  | cons c r l m xs ys hl hx hy ih1 ih2 =>
    obtain ⟨ps, h1, h2, h3⟩ := ih2
    exact ⟨(m :: xs) :: ps, by simp [h1], by rw [List.flatten_cons, ← h2], hx, hl, h3⟩
theorem exk_more : ∀ (ps : List (List Nd)) (r : Bool) (l : ByteArray), ExK r l ps → Ex (.more ps.length r l) ps.flatten
  | [], r, l, _ => .nil r l
  | p :: ps, r, l, h => by
    obtain ⟨x, xs, rfl, _, _⟩ := ex_ne h.1
    exact .cons _ r l x xs _ h.2.1 h.1 (exk_more ps r _ h.2.2)
theorem skP_one {b : Bool} {p : List Nd} (h : Ex (.one b) p) (rest : List Nd) : skP (p ++ rest) 1 0 = some p.length := by
  have hb := bGo_of_ex h [] rest (2 * p.length) (by simp)
  simp only [List.nil_append, List.length_nil, Nat.zero_add] at hb
  have := skP_bGo (p ++ rest) _ _ _ _ hb 0 (Int.le_refl _)
  simp only [List.drop_zero, Int.add_zero] at this
  rw [this, skP_done]
theorem exk_all : ∀ {ps : List (List Nd)} {r : Bool} {l : ByteArray}, ExK r l ps → ∀ p ∈ ps, Ex (.one r) p
  | p :: ps, r, l, h, q, hq => by
    rcases List.mem_cons.1 hq with rfl | hq
    · exact h.1
    · exact exk_all h.2.2 q hq
theorem exk_false : ∀ {ps : List (List Nd)} {l : ByteArray}, (∀ p ∈ ps, Ex (.one false) p) → ExK false l ps
  | [], _, _ => trivial
  | p :: ps, l, h => ⟨h p (by simp), by simp, exk_false fun q hq => h q (by simp [hq])⟩
theorem late_lt (l s : ByteArray) : sLate l s = false ↔ l.toList < s.toList := by
  unfold sLate
  rw [bytesLess_eq]
  constructor
  · intro h
    simp only [Bool.or_eq_false_iff, decide_eq_false_iff_not, beq_eq_false_iff_ne] at h
    by_cases h1 : l.toList < s.toList
    · exact h1
    · rcases le_cases (List.not_lt.1 h1) with h2 | h2
      · exact absurd h2 h.1
      · exact absurd h2 h.2
  · intro h
    simp only [Bool.or_eq_false_iff, decide_eq_false_iff_not, beq_eq_false_iff_ne]
    exact ⟨List.lt_asymm h, fun e => List.lt_irrefl _ (e ▸ h)⟩
def namesOf (ps : List (List Nd)) : List (List UInt8) := ps.map fun p => (headS p).toList
theorem exk_pw : ∀ {ps : List (List Nd)} {l : ByteArray}, ExK true l ps → (namesOf ps).Pairwise (· < ·) ∧ ∀ s ∈ namesOf ps, l.toList < s
  | [], l, _ => ⟨List.Pairwise.nil, by simp [namesOf]⟩
  | p :: ps, l, h => by
    have h2 := (late_lt _ _).1 (h.2.1 rfl)
    have ih := exk_pw (l := headS p) (by simpa using h.2.2)
    refine ⟨List.Pairwise.cons ih.2 ih.1, ?_⟩
    intro s hs
    rcases List.mem_cons.1 hs with rfl | hs
    · exact h2
    · exact List.lt_trans h2 (ih.2 s hs)
theorem exk_of_pw : ∀ {ps : List (List Nd)} {l : ByteArray}, (∀ p ∈ ps, Ex (.one true) p) → (namesOf ps).Pairwise (· < ·) → (∀ s ∈ namesOf ps, l.toList < s) → ExK true l ps
  | [], _, _, _, _ => trivial
  | p :: ps, l, h, hp, hl => by
    have hp' := List.pairwise_cons.1 hp
    exact ⟨h p (by simp), fun _ => (late_lt _ _).2 (hl _ (by simp [namesOf])), exk_of_pw (fun q hq => h q (by simp [hq])) hp'.2 hp'.1⟩
/-- The pieces, by their names. -/
def sortN (ps : List (List Nd)) : List (List Nd) := ps.mergeSort fun a b => decide ((headS a).toList ≤ (headS b).toList)
theorem sortN_perm (ps : List (List Nd)) : (sortN ps).Perm ps := List.mergeSort_perm _ _
theorem sortN_pw {ps : List (List Nd)} (h : (namesOf ps).Nodup) : (namesOf (sortN ps)).Pairwise (· < ·) := by
  have h1 : (sortN ps).Pairwise fun a b => decide ((headS a).toList ≤ (headS b).toList) = true := List.pairwise_mergeSort
    (by intro a b c h1 h2; simp only [decide_eq_true_eq] at h1 h2 ⊢; exact List.le_trans h1 h2)
    (by intro a b; simp only [Bool.or_eq_true, decide_eq_true_eq]; exact List.le_total _ _) _
  have h2 : (namesOf (sortN ps)).Nodup := ((sortN_perm ps).map _).nodup_iff.2 h
  unfold namesOf at h2 ⊢
  rw [List.pairwise_map]
  rw [List.Nodup, List.pairwise_map] at h2
  refine (h1.and h2).imp ?_
  rintro a b ⟨h3, h4⟩
  simp only [decide_eq_true_eq] at h3
  rcases le_cases h3 with h | h
  · exact h
  · exact absurd h h4
def ndsLe (a b : List Nd) : Bool := decide (ndsCmp a b ≤ 0)
def dedupA : List Nd → List (List Nd) → List (List Nd)
  | _, [] => []
  | a, b :: r => if ndsCmp a b = 0 then dedupA a r else b :: dedupA b r
def dedupP : List (List Nd) → List (List Nd)
  | [] => []
  | a :: r => a :: dedupA a r
/-- The values of a set, in order, each once. -/
def setParts (ps : List (List Nd)) : List (List Nd) := dedupP (ps.mergeSort ndsLe)
def setNodes (ps : List (List Nd)) : List Nd := ⟨5, (setParts ps).length, ⟨#[]⟩, ⟨#[]⟩⟩ :: (setParts ps).flatten
def valsErr : List (List Nd) → Int
  | [] => 0
  | v :: r => if valErr v ≠ 0 then valErr v else valsErr r
def setOfP (ps : List (List Nd)) : List Nd × Int := if valsErr ps ≠ 0 then ([], valsErr ps) else if 200 < (setNodes ps).length then ([], 4) else (setNodes ps, 0)
theorem nm_ne {s : List UInt8} (h : nameErr s = 0) : ([] : List UInt8) < s := by
  cases s with
  | nil => simp [nameErr] at h
  | cons a l => exact List.nil_lt_cons a l
theorem fld_name {x : Nd} (h : shapedT x = true) (h7 : x.op = 7) : nameErr x.s.toList = 0 := by
  unfold shapedT at h
  rw [if_neg (by omega), if_neg (by omega), if_neg (by omega), if_pos (by omega)] at h
  simp only [Bool.and_eq_true, beq_iff_eq] at h
  exact h.2
end Go.Proofs.YtpheiojmcafolaaGreatDoor
namespace Go.Proofs.YtpheiojmcafolaaGreatDoor
open Go.RowKit
theorem kids_any : ∀ (ps : List (List Nd)), (∀ p ∈ ps, ∃ b, Ex (.one b) p) → ∀ k, ps.flatten.length ≤ k → kidsGo k ps.flatten = ps
  | [], _, k, _ => by cases k <;> rfl
  | p :: ps, h, k, hk => by
    obtain ⟨b, hb⟩ := h p (by simp)
    obtain ⟨x, xs, rfl, _, _⟩ := ex_ne hb
    rw [List.flatten_cons, List.length_append, List.length_cons] at hk
    match k, hk with
    | 0, hk => omega
    | k + 1, hk =>
      have hs := skP_one hb ps.flatten
      rw [List.flatten_cons]
      rw [List.cons_append] at hs ⊢
      rw [kidsGo, hs]
      simp only
      rw [← List.cons_append, List.take_left, List.drop_left, kids_any ps (fun q hq => h q (by simp [hq])) k (by omega)]
end Go.Proofs.YtpheiojmcafolaaGreatDoor
namespace Go.Proofs.YtpheiojmcafolaaGreatDoor
open Go.RowKit Go.Sort
theorem skP_at {b : Bool} {p : List Nd} (h : Ex (.one b) p) (rest : List Nd) (i : Nat) : skP (p ++ rest) 1 i = some (i + p.length) := by
  have hb := bGo_of_ex h (List.replicate i ⟨0, 0, ⟨#[]⟩, ⟨#[]⟩⟩) rest (2 * p.length) (by simp)
  have := skP_bGo _ _ _ _ _ hb 0 (Int.le_refl _)
  rw [List.append_assoc, List.drop_left, List.length_replicate] at this
  simp only [Int.add_zero] at this
  rw [this, skP_done]
theorem pw_nodup {ds : List (List Nd)} (h : (namesOf ds).Pairwise (· < ·)) : (namesOf ds).Nodup := h.imp fun h e => by rw [e] at h; exact List.lt_irrefl _ h
end Go.Proofs.YtpheiojmcafolaaGreatDoor
namespace Go.Proofs.YtpheiojmcafolaaGreatDoor
open Go.RowKit Go.Sort
/-- A comparison that tells an order. -/
structure Cm {α : Type} (c : α → α → Int) : Prop where
  self : ∀ x, c x x = 0
  eq : ∀ x y, c x y = 0 → x = y
  flip : ∀ x y, 0 < c x y ↔ c y x < 0
  trans : ∀ x y z, c x y < 0 → c y z < 0 → c x z < 0
theorem cm_int : Cm cmpI := by
  refine ⟨fun x => ?_, fun x y h => ?_, fun x y => ?_, fun x y z h1 h2 => ?_⟩
  · simp [cmpI]
  · simp only [cmpI] at h; (repeat' split at h) <;> omega
  · simp only [cmpI]; (repeat' split) <;> omega
  · simp only [cmpI] at h1 h2 ⊢; (repeat' split at h1) <;> (repeat' split at h2) <;> (repeat' split) <;> omega
theorem cm_list : Cm Lib.compareBytes := by
  have hs : ∀ x, Lib.compareBytes x x = 0 := fun x => by
    have h1 : ¬ Lib.compareBytes x x < 0 := fun h => List.lt_irrefl _ ((cmp_neg _ _).1 h)
    have h2 : ¬ 0 < Lib.compareBytes x x := fun h => List.lt_irrefl _ ((cmp_pos _ _).1 h)
    omega
  refine ⟨hs, fun x y h => ?_, fun x y => by rw [cmp_pos, cmp_neg], fun x y z h1 h2 => ?_⟩
  · have h1 : ¬ x < y := fun hh => by have := (cmp_neg x y).2 hh; omega
    have h2 : ¬ y < x := fun hh => by have := (cmp_pos x y).2 hh; omega
    rcases le_cases (List.not_lt.1 h2) with h3 | h3
    · exact absurd h3 h1
    · exact h3
  · rw [cmp_neg] at h1 h2 ⊢; exact List.lt_trans h1 h2
theorem Cm.inj {α β : Type} {c : β → β → Int} (h : Cm c) (f : α → β) (hf : ∀ x y, f x = f y → x = y) : Cm fun x y => c (f x) (f y) :=
  ⟨fun _ => h.self _, fun _ _ e => hf _ _ (h.eq _ _ e), fun _ _ => h.flip _ _, fun _ _ _ => h.trans _ _ _⟩
theorem Cm.lex {α β : Type} {c : α → α → Int} {d : β → β → Int} (hc : Cm c) (hd : Cm d) : Cm fun x y : α × β => if c x.1 y.1 = 0 then d x.2 y.2 else c x.1 y.1 := by
  have hz : ∀ x y, c x y = 0 → c y x = 0 := fun x y h => by rw [hc.eq x y h, hc.self]
  refine ⟨fun x => by simp [hc.self, hd.self], fun x y h => ?_, fun x y => ?_, fun x y z h1 h2 => ?_⟩
  · by_cases h0 : c x.1 y.1 = 0
    · simp only [h0, if_true] at h
      exact Prod.ext (hc.eq _ _ h0) (hd.eq _ _ h)
    · simp only [h0, if_false] at h
  · by_cases h0 : c x.1 y.1 = 0
    · have h1 := hz _ _ h0
      simp only [h0, h1, if_true]
      exact hd.flip _ _
    · have h1 : ¬ c y.1 x.1 = 0 := fun h => h0 (hz _ _ h)
      simp only [h0, h1, if_false]
      exact hc.flip _ _
  · by_cases h0 : c x.1 y.1 = 0
    · simp only [h0, if_true] at h1
      have e := hc.eq _ _ h0
      rw [e]
      by_cases h3 : c y.1 z.1 = 0
      · simp only [h3, if_true] at h2 ⊢
        exact hd.trans _ _ _ h1 h2
      · simp only [h3, if_false] at h2 ⊢
        exact h2
    · simp only [h0, if_false] at h1
      by_cases h3 : c y.1 z.1 = 0
      · have e := hc.eq _ _ h3
        rw [← e]
        simp only [h0, if_false]
        exact h1
      · simp only [h3, if_false] at h2
        have h4 := hc.trans _ _ _ h1 h2
        have h5 : ¬ c x.1 z.1 = 0 := by omega
        simp only [h5, if_false]
        exact h4
theorem bytes_ext {x y : ByteArray} (h : x.data.toList = y.data.toList) : x = y := by
  cases x; cases y; simp at h; rw [h]
theorem cm_nd : Cm ndCmp := by
  have h : ndCmp = fun x y : Nd => if cmpI x.op y.op = 0 then (if cmpI x.n y.n = 0 then (if Lib.compareBytes x.s.data.toList y.s.data.toList = 0 then Lib.compareBytes x.t.data.toList y.t.data.toList else Lib.compareBytes x.s.data.toList y.s.data.toList) else cmpI x.n y.n) else cmpI x.op y.op := by
    funext x y
    unfold ndCmp
    simp only [orI]
    split
    · split
      · split
        · split
          · rename_i h; exact h.symm
          · rfl
        · rfl
      · rfl
    · rfl
  rw [h]
  have hb : Cm fun x y : ByteArray => Lib.compareBytes x.data.toList y.data.toList := cm_list.inj (fun x : ByteArray => x.data.toList) fun _ _ => bytes_ext
  exact (cm_int.lex (cm_int.lex (hb.lex hb))).inj (fun x : Nd => (x.op, x.n, x.s, x.t)) fun x y h => by
    cases x; cases y; simp at h; simp [h]
theorem cm_nds : Cm ndsCmp := by
  have hn := cm_nd
  have hz : ∀ x y, ndCmp x y = 0 → ndCmp y x = 0 := fun x y h => by rw [hn.eq x y h, hn.self]
  refine ⟨fun x => ?_, fun x => ?_, fun x => ?_, fun x => ?_⟩
  · induction x with
    | nil => rfl
    | cons a r ih => simp [ndsCmp, hn.self, ih]
  · induction x with
    | nil => intro y h; cases y with
      | nil => rfl
      | cons b s => simp [ndsCmp] at h
    | cons a r ih =>
      intro y h
      cases y with
      | nil => simp [ndsCmp] at h
      | cons b s =>
        rw [ndsCmp] at h
        split at h
        · rename_i h0; rw [hn.eq _ _ h0, ih s h]
        · rename_i h0; exact absurd h h0
  · induction x with
    | nil => intro y; cases y with
      | nil => simp [ndsCmp]
      | cons b s => simp [ndsCmp]
    | cons a r ih =>
      intro y
      cases y with
      | nil => simp [ndsCmp]
      | cons b s =>
        rw [ndsCmp, ndsCmp]
        by_cases h0 : ndCmp a b = 0
        · rw [if_pos h0, if_pos (hz _ _ h0)]; exact ih s
        · rw [if_neg h0, if_neg (fun h => h0 (hz _ _ h))]; exact hn.flip _ _
  · induction x with
    | nil => intro y z h1 h2; cases y with
      | nil => simp [ndsCmp] at h1
      | cons b s => cases z with
        | nil => simp [ndsCmp] at h2
        | cons d u => simp [ndsCmp]
    | cons a r ih =>
      intro y z h1 h2
      cases y with
      | nil => simp [ndsCmp] at h1
      | cons b s => cases z with
        | nil => simp [ndsCmp] at h2
        | cons d u =>
          rw [ndsCmp] at h1 h2 ⊢
          by_cases h0 : ndCmp a b = 0
          · rw [if_pos h0] at h1
            have e := hn.eq _ _ h0
            rw [e]
            by_cases h3 : ndCmp b d = 0
            · rw [if_pos h3] at h2 ⊢; exact ih _ _ h1 h2
            · rw [if_neg h3] at h2 ⊢; exact h2
          · rw [if_neg h0] at h1
            by_cases h3 : ndCmp b d = 0
            · rw [← hn.eq _ _ h3, if_neg h0]; exact h1
            · rw [if_neg h3] at h2
              have h4 := hn.trans _ _ _ h1 h2
              rw [if_neg (by omega)]; exact h4
theorem Cm.swo {α : Type} {c : α → α → Int} (h : Cm c) : SWO (ltOf c) := by
  refine ⟨fun x => by simp [ltOf, h.self], fun x y z h1 h2 => ?_, fun x y z h1 h2 => ?_⟩
  · simp only [ltOf, decide_eq_true_eq] at h1 h2 ⊢; exact h.trans _ _ _ h1 h2
  · simp only [ltOf, decide_eq_false_iff_not] at h1 h2 ⊢
    intro h3
    have h4 : 0 < c z x := (h.flip _ _).2 h3
    by_cases e1 : c x y = 0
    · rw [h.eq _ _ e1] at h3; exact h2 h3
    · have a1 : c y x < 0 := (h.flip _ _).1 (by omega)
      by_cases e2 : c y z = 0
      · rw [← h.eq _ _ e2] at h3; exact h1 h3
      · have a2 : c z y < 0 := (h.flip _ _).1 (by omega)
        have := h.trans _ _ _ a2 a1
        omega
def LtN (a b : List Nd) : Prop := ndsCmp a b < 0
theorem ltN_trans (x y z : List Nd) : LtN x y → LtN y z → LtN x z := cm_nds.trans x y z
theorem le_sorted (qs : List (List Nd)) : (qs.mergeSort ndsLe).Pairwise fun a b => ndsCmp a b ≤ 0 := by
  have h := cm_nds.swo
  have h1 : (qs.mergeSort ndsLe).Pairwise fun a b => ndsLe a b = true := List.pairwise_mergeSort
    (by
      intro a b c h1 h2
      simp only [ndsLe, decide_eq_true_eq] at h1 h2 ⊢
      have := h.ntrans c b a
      simp only [ltOf, decide_eq_false_iff_not] at this
      have f1 := cm_nds.flip a b
      have f2 := cm_nds.flip b c
      have f3 := cm_nds.flip a c
      by_cases hh : ndsCmp c a < 0
      · exact absurd hh (this (fun hx => by have := f2.2 hx; omega) (fun hx => by have := f1.2 hx; omega))
      · have : ¬ 0 < ndsCmp a c := fun hx => hh (f3.1 hx)
        omega)
    (by
      intro a b
      simp only [ndsLe, Bool.or_eq_true, decide_eq_true_eq]
      have := cm_nds.flip a b
      by_cases hh : ndsCmp a b ≤ 0
      · exact .inl hh
      · exact .inr (by have := this.1 (by omega); omega)) _
  refine h1.imp fun h => ?_
  simpa [ndsLe] using h
theorem dedup_pw : ∀ (l : List (List Nd)) (a : List Nd), (a :: l).Pairwise (fun a b => ndsCmp a b ≤ 0) → (a :: dedupA a l).Pairwise LtN
  | [], a, _ => by simp [dedupA]
  | b :: r, a, h => by
    have h1 := List.pairwise_cons.1 h
    have h2 := List.pairwise_cons.1 h1.2
    rw [dedupA]
    by_cases h0 : ndsCmp a b = 0
    · rw [if_pos h0]
      exact dedup_pw r a (List.pairwise_cons.2 ⟨fun c hc => h1.1 c (by simp [hc]), h2.2⟩)
    · rw [if_neg h0]
      have ih := dedup_pw r b h1.2
      have hab : LtN a b := by have := h1.1 b (by simp); unfold LtN; omega
      refine List.pairwise_cons.2 ⟨fun c hc => ?_, ih⟩
      rcases List.mem_cons.1 hc with rfl | hc
      · exact hab
      · exact ltN_trans _ _ _ hab ((List.pairwise_cons.1 ih).1 c hc)
theorem setParts_pw (qs : List (List Nd)) : (setParts qs).Pairwise LtN := by
  have h := le_sorted qs
  unfold setParts
  cases hq : qs.mergeSort ndsLe with
  | nil => simp [dedupP]
  | cons a l => rw [hq] at h; exact dedup_pw l a h
theorem dedup_sub : ∀ (l : List (List Nd)) (a : List Nd), (dedupA a l).Sublist l
  | [], a => by simp [dedupA]
  | b :: r, a => by
    rw [dedupA]
    split
    · exact (dedup_sub r a).cons _
    · exact (dedup_sub r b).cons_cons _
theorem dedupP_sub : ∀ (l : List (List Nd)), (dedupP l).Sublist l
  | [] => .slnil
  | a :: l => (dedup_sub l a).cons_cons _
end Go.Proofs.YtpheiojmcafolaaGreatDoor
namespace Go.Proofs.YtpheiojmcafolaaGreatDoor
open Go.RowKit Go.Sort
def ChainV : Option (List Nd) → List (List Nd) → Prop
  | _, [] => True
  | l, p :: ps => vLate l p = false ∧ ChainV (some p) ps
def RiseF : ByteArray → List (List Nd) → Prop
  | _, [] => True
  | l, p :: ps => sLate l (headS p) = false ∧ RiseF (headS p) ps
/-- A value. -/
inductive Vx : List Nd → Prop where
  | leaf (n : Nd) : shapedV n = true → ¬ n.op = 5 → ¬ n.op = 6 → ¬ n.op = 7 → Vx [n]
  | set (n : Nd) (ps : List (List Nd)) : shapedV n = true → n.op = 5 → n.n = ps.length → (∀ p ∈ ps, Vx p) → ChainV none ps → Vx (n :: ps.flatten)
  | rcd (n : Nd) (ps : List (List Nd)) : shapedV n = true → n.op = 6 → n.n = ps.length → (∀ p ∈ ps, ∃ f v, p = f :: v) → (∀ f v, f :: v ∈ ps → f.op = 7 ∧ shapedV f = true) → (∀ f v, f :: v ∈ ps → Vx v) → RiseF ⟨#[]⟩ ps → Vx (n :: ps.flatten)
/-- A field of a record, and its value. -/
def Fx (p : List Nd) : Prop := ∃ f v, p = f :: v ∧ f.op = 7 ∧ shapedV f = true ∧ Vx v
theorem Vx.ne {xs : List Nd} (h : Vx xs) : ∃ x r, xs = x :: r ∧ shapedV x = true ∧ ¬ x.op = 7 := by
  cases h with
  | leaf n h h5 h6 h7 => exact ⟨n, [], rfl, h, h7⟩
  | set n ps h h5 => exact ⟨n, _, rfl, h, by omega⟩
  | rcd n ps h h6 => exact ⟨n, _, rfl, h, by omega⟩
theorem Vx.rcd' {n : Nd} {ps : List (List Nd)} (h : shapedV n = true) (h6 : n.op = 6) (hn : n.n = ps.length) (hp : ∀ p ∈ ps, Fx p) (hr : RiseF ⟨#[]⟩ ps) : Vx (n :: ps.flatten) :=
  .rcd n ps h h6 hn (fun p hp' => by obtain ⟨f, v, e, _⟩ := hp p hp'; exact ⟨f, v, e⟩)
    (fun f v hm => by obtain ⟨f', v', e, a, b, _⟩ := hp _ hm; injection e with e1 e2; subst e1; exact ⟨a, b⟩)
    (fun f v hm => by obtain ⟨f', v', e, a, b, c⟩ := hp _ hm; injection e with e1 e2; subst e2; exact c) hr
theorem vx_of_vGo (e : List Nd) : ∀ (f : Nat) (t : VTag) (i j : Nat), vGo e f t i = some j →
    match t with
    | .one => Vx (piece e i j)
    | .set c l => ∃ ps : List (List Nd), ps.length = c ∧ piece e i j = ps.flatten ∧ (∀ p ∈ ps, Vx p) ∧ ChainV l ps
    | .flds c l => ∃ ps : List (List Nd), ps.length = c ∧ piece e i j = ps.flatten ∧ (∀ p ∈ ps, Fx p) ∧ RiseF l ps := by
  intro f
  induction f with
  | zero =>
    intro t i j h
    cases t with
    | one => simp [vGo] at h
    | set c l => simp only [vGo] at h; split at h <;> simp at h; subst h; rename_i hc; subst hc; exact ⟨[], rfl, by rw [piece_self]; rfl, by simp, trivial⟩
    | flds c l => simp only [vGo] at h; split at h <;> simp at h; subst h; rename_i hc; subst hc; exact ⟨[], rfl, by rw [piece_self]; rfl, by simp, trivial⟩
  | succ f ih =>
    intro t i j h
    have hb := vGo_bound e _ _ _ _ h
    cases t with
    | one =>
      have hij := hb.2.2 rfl
      rw [vGo] at h
      split at h
      · cases h
      · rename_i n hn
        split at h
        · cases h
        · rename_i hsh
          have hsh : shapedV n = true := by simpa using hsh
          show Vx (piece e i j)
          rw [piece_cons hn hij]
          split at h
          · rename_i h5
            obtain ⟨ps, h1, h2, h3, h4⟩ := ih _ _ _ h
            rw [h2]
            have h0 : 0 ≤ n.n := by simp [shapedV, h5] at hsh; omega
            exact .set n ps hsh h5 (by omega) h3 h4
          · rename_i h5
            split at h
            · rename_i h6
              obtain ⟨ps, h1, h2, h3, h4⟩ := ih _ _ _ h
              rw [h2]
              have h0 : 0 ≤ n.n := by simp [shapedV, h6] at hsh; omega
              exact .rcd' hsh h6 (by omega) h3 h4
            · rename_i h6
              split at h
              · cases h
              · rename_i h7
                injection h with h
                subst h
                rw [piece_self]
                exact .leaf n hsh h5 h6 h7
    | set c l =>
      cases c with
      | zero => simp only [vGo, Option.some.injEq] at h; subst h; exact ⟨[], rfl, by rw [piece_self]; rfl, by simp, trivial⟩
      | succ c =>
        simp only [vGo] at h
        split at h
        · cases h
        · rename_i k hk
          split at h
          · cases h
          · rename_i hl
            have b1 := vGo_bound e _ _ _ _ hk
            have b2 := vGo_bound e _ _ _ _ h
            have a1 : Vx (piece e i k) := ih _ _ _ hk
            obtain ⟨ps, h1, h2, h3, h4⟩ := ih _ _ _ h
            refine ⟨piece e i k :: ps, by simp [h1], by rw [piece_split e b1.2.1 b2.2.1, h2]; rfl, ?_, by simpa using hl, h4⟩
            intro p hp
            rcases List.mem_cons.1 hp with rfl | hp
            · exact a1
            · exact h3 p hp
    | flds c l =>
      cases c with
      | zero => simp only [vGo, Option.some.injEq] at h; subst h; exact ⟨[], rfl, by rw [piece_self]; rfl, by simp, trivial⟩
      | succ c =>
        simp only [vGo] at h
        split at h
        · cases h
        · rename_i m hm
          split at h
          · cases h
          · rename_i hl
            split at h
            · cases h
            · rename_i k hk
              have b1 := vGo_bound e _ _ _ _ hk
              have b2 := vGo_bound e _ _ _ _ h
              have a1 : Vx (piece e (i + 1) k) := ih _ _ _ hk
              obtain ⟨ps, h1, h2, h3, h4⟩ := ih _ _ _ h
              have hik : i < k := by have := b1.2.2 rfl; omega
              simp only [not_or, Decidable.not_not, Bool.not_eq_true] at hl
              have hl2 : shapedV m = true := by simpa using hl.2.1
              have hp0 : piece e i k = m :: piece e (i + 1) k := piece_cons hm hik
              refine ⟨(m :: piece e (i + 1) k) :: ps, by simp [h1], by rw [piece_split e (Nat.le_of_lt hik) b2.2.1, h2, hp0]; rfl, ?_, hl.2.2, h4⟩
              intro p hp
              rcases List.mem_cons.1 hp with rfl | hp
              · exact ⟨m, _, rfl, hl.1, hl2, a1⟩
              · exact h3 p hp
theorem piece_mid (a p b : List Nd) : piece (a ++ p ++ b) a.length (a.length + p.length) = p := by
  unfold piece
  rw [List.append_assoc, List.drop_left]
  simp
/-- The reader reads it, wherever it stands. -/
def Rd (p : List Nd) : Prop := ∀ (a b : List Nd) (f : Nat), 2 * p.length ≤ f → vGo (a ++ p ++ b) f .one a.length = some (a.length + p.length)
theorem set_rd : ∀ (ps : List (List Nd)) (l : Option (List Nd)), (∀ p ∈ ps, Rd p ∧ 0 < p.length) → ChainV l ps → ∀ (a b : List Nd) (f : Nat), 2 * ps.flatten.length + 1 ≤ f →
    vGo (a ++ ps.flatten ++ b) f (.set ps.length l) a.length = some (a.length + ps.flatten.length)
  | [], l, _, _, a, b, f, hf => by
    match f, hf with
    | f + 1, _ => simp [vGo]
  | p :: ps, l, hp, hc, a, b, f, hf => by
    have h1 := hp p (by simp)
    rw [List.flatten_cons, List.length_append] at hf
    match f, hf with
    | f + 1, hf =>
      have r1 := h1.1 a (ps.flatten ++ b) f (by omega)
      have e1 : a ++ p ++ (ps.flatten ++ b) = a ++ (p :: ps).flatten ++ b := by simp
      rw [e1] at r1
      have e2 : piece (a ++ (p :: ps).flatten ++ b) a.length (a.length + p.length) = p := by rw [← e1]; exact piece_mid a p _
      have r2 := set_rd ps (some p) (fun q hq => hp q (by simp [hq])) hc.2 (a ++ p) b f (by omega)
      have e3 : a ++ p ++ ps.flatten ++ b = a ++ (p :: ps).flatten ++ b := by simp
      rw [e3, List.length_append] at r2
      simp only [List.length_cons, vGo, r1, e2]
      rw [if_neg (by rw [hc.1]; simp), r2, List.flatten_cons, List.length_append]
      congr 1
      omega
theorem fld_rd : ∀ (ps : List (List Nd)) (l : ByteArray), (∀ p ∈ ps, ∃ f v, p = f :: v ∧ f.op = 7 ∧ shapedV f = true ∧ Rd v ∧ 0 < v.length) → RiseF l ps → ∀ (a b : List Nd) (f : Nat), 2 * ps.flatten.length + 1 ≤ f →
    vGo (a ++ ps.flatten ++ b) f (.flds ps.length l) a.length = some (a.length + ps.flatten.length)
  | [], l, _, _, a, b, f, hf => by
    match f, hf with
    | f + 1, _ => simp [vGo]
  | p :: ps, l, hp, hc, a, b, f, hf => by
    obtain ⟨m, v, rfl, h7, hs, hr, hv0⟩ := hp p (by simp)
    rw [List.flatten_cons, List.length_append, List.length_cons] at hf
    match f, hf with
    | f + 1, hf =>
      have r1 := hr (a ++ [m]) (ps.flatten ++ b) f (by omega)
      have e1 : a ++ [m] ++ v ++ (ps.flatten ++ b) = a ++ ((m :: v) :: ps).flatten ++ b := by simp
      rw [e1, List.length_append, List.length_singleton] at r1
      have r2 := fld_rd ps m.s (fun q hq => hp q (by simp [hq])) hc.2 (a ++ m :: v) b f (by omega)
      have e3 : a ++ m :: v ++ ps.flatten ++ b = a ++ ((m :: v) :: ps).flatten ++ b := by simp
      rw [e3, List.length_append, List.length_cons] at r2
      have hm : (a ++ ((m :: v) :: ps).flatten ++ b)[a.length]? = some m := by simp
      have hl : sLate l m.s = false := hc.1
      simp only [List.length_cons, vGo, hm]
      rw [if_neg (by simp [h7, hs, hl]), r1]
      simp only
      rw [show a.length + 1 + v.length = a.length + (v.length + 1) from by omega, r2, List.flatten_cons, List.length_append, List.length_cons]
      congr 1
      omega
theorem rd_vx {xs : List Nd} (h : Vx xs) : Rd xs := by
  induction h with
  | leaf n hs h5 h6 h7 =>
    intro a b f hf
    match f, hf with
    | f + 1, _ => simp [vGo, hs, h5, h6, h7]
  | set n ps hs h5 hn hv hc ih =>
    intro a b f hf
    match f, hf with
    | f + 1, hf =>
      rw [List.length_cons] at hf
      have r := set_rd ps none (fun p hp => ⟨ih p hp, by obtain ⟨x, r, e, _⟩ := (hv p hp).ne; rw [e]; simp⟩) hc (a ++ [n]) b f (by omega)
      have e1 : a ++ [n] ++ ps.flatten ++ b = a ++ (n :: ps.flatten) ++ b := by simp
      rw [e1, List.length_append, List.length_singleton] at r
      have hm : (a ++ (n :: ps.flatten) ++ b)[a.length]? = some n := by simp
      simp only [vGo, hm, hs, h5]
      simp only [Bool.true_eq_false, if_false, if_true]
      rw [show n.n.toNat = ps.length from by omega, r, List.length_cons]
      congr 1
      omega
  | rcd n ps hs h6 hn h1 h2 h3 hc ih =>
    intro a b f hf
    match f, hf with
    | f + 1, hf =>
      rw [List.length_cons] at hf
      have r := fld_rd ps ⟨#[]⟩ (fun p hp => by
        obtain ⟨m, v, rfl⟩ := h1 p hp
        obtain ⟨a1, a2⟩ := h2 m v hp
        exact ⟨m, v, rfl, a1, a2, ih m v hp, by obtain ⟨x, r, e, _⟩ := (h3 m v hp).ne; rw [e]; simp⟩) hc (a ++ [n]) b f (by omega)
      have e1 : a ++ [n] ++ ps.flatten ++ b = a ++ (n :: ps.flatten) ++ b := by simp
      rw [e1, List.length_append, List.length_singleton] at r
      have hm : (a ++ (n :: ps.flatten) ++ b)[a.length]? = some n := by simp
      have h5 : ¬ n.op = 5 := by omega
      simp only [vGo, hm, hs, h6]
      simp only [Bool.true_eq_false, if_false, if_true]
      rw [if_neg (by omega), show n.n.toNat = ps.length from by omega, r, List.length_cons]
      congr 1
      omega
/-- A value, to the reader. -/
theorem val_iff (e : List Nd) : valErr e = 0 ↔ e.length ≤ 200 ∧ Vx e := by
  unfold valErr
  constructor
  · intro h
    split at h
    · cases h
    · split at h
      · rename_i h1 h2
        have := vx_of_vGo e _ _ _ _ h2
        have h3 : Vx (piece e 0 e.length) := this
        rw [show piece e 0 e.length = e from by simp [piece]] at h3
        exact ⟨by omega, h3⟩
      · cases h
  · rintro ⟨h1, h2⟩
    have r := rd_vx h2 [] [] (2 * e.length) (Nat.le_refl _)
    simp only [List.nil_append, List.append_nil, List.length_nil, Nat.zero_add] at r
    rw [if_neg (by omega), if_pos r]
theorem shaped_tv {n : Nd} (h : shapedV n = true) : shapedT n = true := by
  by_cases h5 : n.op = 5 ∨ n.op = 6
  · unfold shapedT
    rw [if_neg (by omega), if_pos h5]
    unfold shapedV at h
    rw [if_neg (by omega), if_neg (by omega), if_neg (by omega), if_neg (by omega), if_pos h5] at h
    exact h
  · by_cases h7 : n.op = 7
    · unfold shapedT
      rw [if_neg (by omega), if_neg (by omega), if_neg (by omega), if_pos (by omega)]
      unfold shapedV at h
      rw [if_neg (by omega), if_neg (by omega), if_neg (by omega), if_neg (by omega), if_neg (by omega), if_pos h7] at h
      exact h
    · have h1 : n.op = 1 ∨ n.op = 2 ∨ n.op = 3 ∨ n.op = 4 := by
        unfold shapedV at h
        by_cases a1 : n.op = 1
        · omega
        · by_cases a2 : n.op = 2
          · omega
          · by_cases a3 : n.op = 3
            · omega
            · by_cases a4 : n.op = 4
              · omega
              · rw [if_neg a1, if_neg a2, if_neg a3, if_neg a4, if_neg h5, if_neg h7] at h; cases h
      unfold shapedT
      rw [if_pos h1, (val_iff [n]).2 ⟨by simp, .leaf n h (by omega) (by omega) h7⟩]
      rfl
theorem ex_one {p : List Nd} {b : Bool} (h : Ex (.one b) p) (r : Bool) (hr : r = b) (hb : r = false) : Ex (.more 1 r ⟨#[]⟩) p := by
  subst hr; subst hb
  obtain ⟨x, xs, rfl, _, _⟩ := ex_ne h
  have := Ex.cons 0 false ⟨#[]⟩ x xs [] (by simp) h (.nil _ _)
  simpa using this
theorem fx_ex {f : Nd} {v : List Nd} (h7 : f.op = 7) (hs : shapedV f = true) (hv : Ex (.one false) v) : Ex (.one true) (f :: v) := by
  refine .one f v true (shaped_tv hs) (by simp [h7]) ?_
  have : ndParts f = 1 := by simp [ndParts, h7]
  rw [this, show (f.op == 6) = false from by simp [h7]]
  exact ex_one hv false rfl rfl
theorem rise_exk : ∀ {ps : List (List Nd)} {l : ByteArray}, (∀ p ∈ ps, Ex (.one true) p) → RiseF l ps → ExK true l ps
  | [], _, _, _ => trivial
  | p :: ps, l, h, hr => ⟨h p (by simp), fun _ => hr.1, rise_exk (fun q hq => h q (by simp [hq])) hr.2⟩
theorem exk_rise : ∀ {ps : List (List Nd)} {l : ByteArray}, ExK true l ps → RiseF l ps
  | [], _, _ => trivial
  | _ :: _, _, h => ⟨h.2.1 rfl, exk_rise h.2.2⟩
theorem vx_ex {xs : List Nd} (h : Vx xs) : Ex (.one false) xs := by
  induction h with
  | leaf n hs h5 h6 h7 =>
    refine .one n [] false (shaped_tv hs) (by simp [h7]) ?_
    have h1 : n.op = 1 ∨ n.op = 2 ∨ n.op = 3 ∨ n.op = 4 := by
      unfold shapedV at hs
      by_cases a1 : n.op = 1
      · omega
      · by_cases a2 : n.op = 2
        · omega
        · by_cases a3 : n.op = 3
          · omega
          · by_cases a4 : n.op = 4
            · omega
            · rw [if_neg a1, if_neg a2, if_neg a3, if_neg a4, if_neg (by omega), if_neg h7] at hs; cases hs
    have : ndParts n = 0 := by rcases h1 with h | h | h | h <;> simp [ndParts, h]
    rw [this]
    exact .nil _ _
  | set n ps hs h5 hn hv hc ih =>
    refine .one n _ false (shaped_tv hs) (by simp [h5]) ?_
    have : ndParts n = ps.length := by simp [ndParts, h5, hn]
    rw [this, show (n.op == 6) = false from by simp [h5], Int.toNat_natCast]
    exact exk_more ps false _ (exk_false ih)
  | rcd n ps hs h6 hn h1 h2 h3 hc ih =>
    refine .one n _ false (shaped_tv hs) (by simp [h6]) ?_
    have : ndParts n = ps.length := by simp [ndParts, h6, hn]
    rw [this, show (n.op == 6) = true from by simp [h6], Int.toNat_natCast]
    refine exk_more ps true _ (rise_exk (fun p hp => ?_) hc)
    obtain ⟨f, v, rfl⟩ := h1 p hp
    obtain ⟨a1, a2⟩ := h2 f v hp
    exact fx_ex a1 a2 (ih f v hp)
theorem chain_of : ∀ {ps : List (List Nd)} {l : Option (List Nd)}, ps.Pairwise LtN → (∀ a, l = some a → ∀ p ∈ ps, LtN a p) → ChainV l ps
  | [], _, _, _ => trivial
  | p :: ps, l, h, hl => by
    have h' := List.pairwise_cons.1 h
    refine ⟨?_, chain_of h'.2 (by rintro a ⟨rfl⟩ q hq; exact h'.1 q hq)⟩
    cases l with
    | none => rfl
    | some a => have := hl a rfl p (by simp); unfold LtN at this; simp only [vLate, decide_eq_false_iff_not]; omega
end Go.Proofs.YtpheiojmcafolaaGreatDoor
namespace Go.Proofs.YtpheiojmcafolaaGreatDoor
open Go.RowKit Go.Sort
theorem mem_setParts {qs : List (List Nd)} {p : List Nd} (h : p ∈ setParts qs) : p ∈ qs := (List.mergeSort_perm _ _).mem_iff.1 ((dedupP_sub _).subset h)
theorem nodup_rise {qs : List (List Nd)} (h : ∀ q ∈ qs, Ex (.one true) q) (hn : (namesOf qs).Nodup) : ExK true ⟨#[]⟩ (sortN qs) := by
  refine exk_of_pw (fun q hq => h q ((sortN_perm qs).mem_iff.1 hq)) (sortN_pw hn) ?_
  intro s hs'
  obtain ⟨q, hq, rfl⟩ := List.mem_map.1 hs'
  obtain ⟨x, xs, rfl, hsx, hx7⟩ := ex_ne (h q ((sortN_perm qs).mem_iff.1 hq))
  rw [show (⟨#[]⟩ : ByteArray).toList = [] from by rw [ByteArray.toList_eq]]
  exact nm_ne (fld_name hsx (by simpa using hx7))
theorem map_id {α : Type} {f : α → α} : ∀ (l : List α), (∀ x ∈ l, f x = x) → l.map f = l
  | [], _ => rfl
  | x :: l, h => by rw [List.map_cons, h x (by simp), map_id l fun y hy => h y (by simp [hy])]
end Go.Proofs.YtpheiojmcafolaaGreatDoor
namespace Go.Proofs.YtpheiojmcafolaaGreatDoor
open Go.RowKit
/-- A formula. -/
inductive Fm where
  | lit (n : Nd)
  | var (n : Nd)
  | neg (n : Nd) (a : Fm)
  | two (n : Nd) (a b : Fm)
  | ite (n : Nd) (a b c : Fm)
def Fm.enc : Fm → List Nd
  | .lit n => [n]
  | .var n => [n]
  | .neg n a => n :: a.enc
  | .two n a b => n :: (a.enc ++ b.enc)
  | .ite n a b c => n :: (a.enc ++ (b.enc ++ c.enc))
def Fm.Ok : Fm → Prop
  | .lit n => n.op = 1
  | .var n => n.op = 8
  | .neg n a => n.op = 9 ∧ a.Ok
  | .two n a b => (n.op = 11 ∨ n.op = 12 ∨ n.op = 14) ∧ a.Ok ∧ b.Ok
  | .ite n a b c => n.op = 13 ∧ a.Ok ∧ b.Ok ∧ c.Ok
def twoB (op : Int) (a b : Bool) : Bool := if op = 11 then a && b else if op = 12 then a || b else a == b
def Fm.ev (v : List UInt8 → Bool) : Fm → Bool
  | .lit n => n.n == 1
  | .var n => v n.s.toList
  | .neg _ a => !a.ev v
  | .two n a b => twoB n.op (a.ev v) (b.ev v)
  | .ite _ a b c => if a.ev v = true then b.ev v else c.ev v
/-- A node that a formula may have. -/
def fmOp (x : Nd) : Bool := x.op == 1 || x.op == 9 || x.op == 11 || x.op == 12 || x.op == 13 || x.op == 14 || x.op == 8
theorem fmOp_cases {x : Nd} (h : fmOp x = true) : x.op = 1 ∨ x.op = 8 ∨ x.op = 9 ∨ (x.op = 11 ∨ x.op = 12 ∨ x.op = 14) ∨ x.op = 13 := by
  unfold fmOp at h
  simp only [Bool.or_eq_true, beq_iff_eq] at h
  omega
theorem fm_ex {t : BTag} {xs : List Nd} (h : Ex t xs) (ho : xs.all fmOp = true) :
    match t with
    | .one _ => ∃ f : Fm, f.Ok ∧ xs = f.enc
    | .more c _ _ => ∃ fs : List Fm, fs.length = c ∧ (∀ f ∈ fs, f.Ok) ∧ xs = fs.flatMap Fm.enc := by
  induction h with
  | one n body fld hs h7 hb ih =>
    rw [List.all_cons, Bool.and_eq_true] at ho
    obtain ⟨fs, hl, hok, rfl⟩ := ih ho.2
    rcases fmOp_cases ho.1 with h | h | h | h | h
    · have hp : ndParts n = 0 := by simp [ndParts, h]
      rw [hp] at hl
      obtain rfl := List.eq_nil_of_length_eq_zero hl
      exact ⟨.lit n, h, rfl⟩
    · have hp : ndParts n = 0 := by simp [ndParts, h]
      rw [hp] at hl
      obtain rfl := List.eq_nil_of_length_eq_zero hl
      exact ⟨.var n, h, rfl⟩
    · have hp : ndParts n = 1 := by simp [ndParts, h]
      rw [hp] at hl
      match fs, hl with
      | [a], _ => exact ⟨.neg n a, ⟨h, hok a (by simp)⟩, by simp [Fm.enc]⟩
    · have hp : ndParts n = 2 := by unfold ndParts; rcases h with h | h | h <;> simp [h]
      rw [hp] at hl
      match fs, hl with
      | [a, b], _ => exact ⟨.two n a b, ⟨h, hok a (by simp), hok b (by simp)⟩, by simp [Fm.enc]⟩
    · have hp : ndParts n = 3 := by simp [ndParts, h]
      rw [hp] at hl
      match fs, hl with
      | [a, b, c], _ => exact ⟨.ite n a b c, ⟨h, hok a (by simp), hok b (by simp), hok c (by simp)⟩, by simp [Fm.enc]⟩
  | nil r l => exact ⟨[], rfl, by simp, rfl⟩
  | cons c r l m xs ys hl hx hy ih1 ih2 =>
    rw [List.all_append, Bool.and_eq_true] at ho
    obtain ⟨f, hf, h1⟩ := ih1 ho.1
    obtain ⟨fs, hn, hok, h2⟩ := ih2 ho.2
    refine ⟨f :: fs, by simp [hn], ?_, by rw [List.flatMap_cons, ← h1, ← h2]⟩
    intro g hg
    rcases List.mem_cons.1 hg with rfl | hg
    · exact hf
    · exact hok g hg
/-- A right expression of such nodes is a formula. -/
theorem fm_of {e : List Nd} (h : treeErr e = 0) (ho : e.all fmOp = true) : ∃ f : Fm, f.Ok ∧ e = f.enc := fm_ex ((tree_iff e).1 h).2 ho

/-- What a list of nodes tells from its beginning on, and what is left. -/
def evG (v : List UInt8 → Bool) : Nat → List Nd → Bool × List Nd
  | 0, l => (false, l)
  | _ + 1, [] => (false, [])
  | k + 1, n :: l =>
    if n.op = 1 then (n.n == 1, l) else if n.op = 8 then (v n.s.toList, l)
    else if n.op = 9 then (!(evG v k l).1, (evG v k l).2)
    else if n.op = 13 then (if (evG v k l).1 = true then (evG v k (evG v k l).2).1 else (evG v k (evG v k (evG v k l).2).2).1, (evG v k (evG v k (evG v k l).2).2).2)
    else (twoB n.op (evG v k l).1 (evG v k (evG v k l).2).1, (evG v k (evG v k l).2).2)
theorem evG_enc (v : List UInt8 → Bool) (f : Fm) (hf : f.Ok) : ∀ k l, f.enc.length ≤ k → evG v k (f.enc ++ l) = (f.ev v, l) := by
  induction f with
  | lit n =>
    intro k l hk
    match k, hk with
    | k + 1, _ => have h1 : n.op = 1 := hf; simp [Fm.enc, evG, Fm.ev, h1]
  | var n =>
    intro k l hk
    match k, hk with
    | k + 1, _ => have h1 : n.op = 8 := hf; simp [Fm.enc, evG, Fm.ev, h1]
  | neg n a ih =>
    intro k l hk
    match k, hk with
    | k + 1, hk =>
      simp only [Fm.enc, List.length_cons] at hk
      have h1 := hf.1
      simp [Fm.enc, evG, Fm.ev, h1, ih hf.2 k l (by omega)]
  | two n a b iha ihb =>
    intro k l hk
    match k, hk with
    | k + 1, hk =>
      simp only [Fm.enc, List.length_cons, List.length_append] at hk
      have h1 := hf.1
      rw [Fm.enc, List.cons_append, evG, if_neg (by omega), if_neg (by omega), if_neg (by omega), if_neg (by omega), List.append_assoc, iha hf.2.1 k _ (by omega)]
      simp only [ihb hf.2.2 k l (by omega), Fm.ev]
  | ite n a b c iha ihb ihc =>
    intro k l hk
    match k, hk with
    | k + 1, hk =>
      simp only [Fm.enc, List.length_cons, List.length_append] at hk
      have h1 := hf.1
      rw [Fm.enc, List.cons_append, evG, if_neg (by omega), if_neg (by omega), if_neg (by omega), if_pos h1, List.append_assoc, iha hf.2.1 k _ (by omega)]
      simp only [List.append_assoc, ihb hf.2.2.1 k _ (by omega), ihc hf.2.2.2 k l (by omega), Fm.ev]
def evL (e : List Nd) (v : List UInt8 → Bool) : Bool := (evG v e.length e).1
theorem evL_enc (v : List UInt8 → Bool) {f : Fm} (hf : f.Ok) : evL f.enc v = f.ev v := by
  have := evG_enc v f hf f.enc.length [] (Nat.le_refl _)
  rw [List.append_nil] at this
  rw [evL, this]

/-- The names, so. -/
def upd (v : List UInt8 → Bool) (s : List UInt8) (b : Bool) : List UInt8 → Bool := fun t => if t = s then b else v t
def noneV : List UInt8 → Bool := fun _ => false
/-- The names as the bits are: the first one is the highest. -/
def vB : List (List UInt8) → (List UInt8 → Bool) → Nat → List UInt8 → Bool
  | [], v, _, t => v t
  | s :: r, v, bits, t => if t = s then bits.testBit r.length else vB r v bits t
def tabB (g : (List UInt8 → Bool) → Bool) (names : List (List UInt8)) : List Bool := (List.range (2 ^ names.length)).map fun bits => g (vB names noneV bits)
theorem vB_congr : ∀ (names : List (List UInt8)) (v u : List UInt8 → Bool) (bits : Nat) (t : List UInt8), v t = u t → vB names v bits t = vB names u bits t
  | [], _, _, _, _, h => h
  | s :: r, v, u, bits, t, h => by
    rw [vB, vB]; split
    · rfl
    · exact vB_congr r v u bits t h
theorem vB_not : ∀ (names : List (List UInt8)) (v : List UInt8 → Bool) (bits : Nat) (t : List UInt8), t ∉ names → vB names v bits t = v t
  | [], _, _, _, _ => rfl
  | s :: r, v, bits, t, h => by
    rw [vB, if_neg (by rintro rfl; exact h (by simp)), vB_not r v bits t (fun hh => h (by simp [hh]))]
theorem tabB_len (g : (List UInt8 → Bool) → Bool) (names : List (List UInt8)) : (tabB g names).length = 2 ^ names.length := by simp [tabB]

/-- What is put for a name, told. -/
def Fm.put (s : ByteArray) (x : Nd) : Fm → Fm
  | .lit n => .lit n
  | .var n => if n.s.toList = s.toList then .lit x else .var n
  | .neg n a => .neg n (a.put s x)
  | .two n a b => .two n (a.put s x) (b.put s x)
  | .ite n a b c => .ite n (a.put s x) (b.put s x) (c.put s x)
theorem put_one {n : Nd} (h : ¬ n.op = 8) (l : List Nd) (s : ByteArray) (x : Nd) : putL (n :: l) s [x] = n :: putL l s [x] := by
  rw [putL_cons, if_neg (by unfold isVar; simp [h])]; rfl
theorem put_enc {s : ByteArray} {x : Nd} (hx : x.op = 1) : ∀ {f : Fm}, f.Ok → (f.put s x).Ok ∧ (f.put s x).enc = putL f.enc s [x]
  | .lit n, h => ⟨h, by have h1 : n.op = 1 := h; rw [Fm.enc, put_one (by omega)]; rfl⟩
  | .var n, h => by
    have h1 : n.op = 8 := h
    rw [Fm.put, Fm.enc, putL_cons, putL_nil]
    by_cases hn : n.s.toList = s.toList
    · rw [if_pos hn, if_pos (by simp [isVar, h1, hn])]; exact ⟨hx, rfl⟩
    · rw [if_neg hn, if_neg (by simp [isVar, hn])]; exact ⟨h, rfl⟩
  | .neg n a, h => by
    have ia := put_enc (s := s) hx h.2
    exact ⟨⟨h.1, ia.1⟩, by rw [Fm.put, Fm.enc, Fm.enc, put_one (by have := h.1; omega), ia.2]⟩
  | .two n a b, h => by
    have ia := put_enc (s := s) hx h.2.1
    have ib := put_enc (s := s) hx h.2.2
    exact ⟨⟨h.1, ia.1, ib.1⟩, by rw [Fm.put, Fm.enc, Fm.enc, put_one (by have := h.1; omega), ia.2, ib.2, putL_append]⟩
  | .ite n a b c, h => by
    have ia := put_enc (s := s) hx h.2.1
    have ib := put_enc (s := s) hx h.2.2.1
    have ic := put_enc (s := s) hx h.2.2.2
    exact ⟨⟨h.1, ia.1, ib.1, ic.1⟩, by rw [Fm.put, Fm.enc, Fm.enc, put_one (by have := h.1; omega), ia.2, ib.2, ic.2, putL_append, putL_append]⟩
theorem put_ev {s : ByteArray} {x : Nd} (v : List UInt8 → Bool) : ∀ (f : Fm), (f.put s x).ev v = f.ev (upd v s.toList (x.n == 1))
  | .lit n => rfl
  | .var n => by
    rw [Fm.put, Fm.ev]
    unfold upd
    split
    · rfl
    · rfl
  | .neg n a => by rw [Fm.put, Fm.ev, Fm.ev, put_ev v a]
  | .two n a b => by rw [Fm.put, Fm.ev, Fm.ev, put_ev v a, put_ev v b]
  | .ite n a b c => by rw [Fm.put, Fm.ev, Fm.ev, put_ev v a, put_ev v b, put_ev v c]

def onesL (t : List Bool) : Nat := t.count true
end Go.Proofs.YtpheiojmcafolaaGreatDoor
namespace Go.Proofs.YtpheiojmcafolaaGreatDoor
open Go.RowKit
theorem ex_moreL : ∀ (ps : List (List Nd)) (l : ByteArray), (∀ p ∈ ps, Ex (.one false) p) → Ex (.more ps.length false l) ps.flatten
  | [], l, _ => .nil _ _
  | p :: ps, l, h => by
    have ih := ex_moreL ps l fun q hq => h q (by simp [hq])
    have hp := h p (by simp)
    cases hp with
    | one m xs _ s1 s2 s3 => exact Ex.cons ps.length false l m xs _ (by simp) (.one m xs false s1 s2 s3) (by simpa using ih)
theorem ex_mk (n : Nd) (ps : List (List Nd)) (hs : shapedT n = true) (hc : ndParts n = (ps.length : Int)) (h7 : (n.op == 7) = false) (h6 : (n.op == 6) = false) (h : ∀ p ∈ ps, Ex (.one false) p) : Ex (.one false) (n :: ps.flatten) :=
  .one n _ false hs h7 (by rw [hc, h6, Int.toNat_natCast]; exact ex_moreL ps _ h)
/-- The parts of a formula. -/
def Fm.top : Fm → Nd
  | .lit n => n
  | .var n => n
  | .neg n _ => n
  | .two n _ _ => n
  | .ite n _ _ _ => n
def Fm.subs : Fm → List Fm
  | .lit _ => []
  | .var _ => []
  | .neg _ a => [a]
  | .two _ a b => [a, b]
  | .ite _ a b c => [a, b, c]
theorem Fm.enc_top (f : Fm) : f.enc = f.top :: (f.subs.map Fm.enc).flatten := by cases f <;> simp [Fm.enc, Fm.top, Fm.subs]
theorem Fm.ok_op {f : Fm} (h : f.Ok) : (f.top.op == 7) = false ∧ (f.top.op == 6) = false ∧ ndParts f.top = (f.subs.length : Int) := by
  cases f with
  | lit n => have h : n.op = 1 := h; simp [Fm.top, Fm.subs, h, ndParts]
  | var n => have h : n.op = 8 := h; simp [Fm.top, Fm.subs, h, ndParts]
  | neg n a => have h := h.1; simp [Fm.top, Fm.subs, h, ndParts]
  | two n a b => rcases h.1 with h | h | h <;> simp [Fm.top, Fm.subs, h, ndParts]
  | ite n a b c => have h := h.1; simp [Fm.top, Fm.subs, h, ndParts]
theorem fm_top (f : Fm) (h : f.Ok) (hs : ∀ n ∈ f.enc, shapedT n = true) (hsub : ∀ g ∈ f.subs, Ex (.one false) g.enc) : Ex (.one false) f.enc := by
  obtain ⟨h7, h6, hp⟩ := Fm.ok_op h
  rw [Fm.enc_top]
  refine ex_mk _ _ (hs _ (by rw [Fm.enc_top]; simp)) (by rw [hp, List.length_map]) h7 h6 fun p hp => ?_
  obtain ⟨g, hg, rfl⟩ := List.mem_map.1 hp
  exact hsub g hg
theorem fm_exs (f : Fm) : f.Ok → (∀ n ∈ f.enc, shapedT n = true) → Ex (.one false) f.enc := by
  induction f with
  | lit n => intro h hs; exact fm_top _ h hs fun g hg => by simp [Fm.subs] at hg
  | var n => intro h hs; exact fm_top _ h hs fun g hg => by simp [Fm.subs] at hg
  | neg n a iha =>
    intro h hs
    refine fm_top _ h hs fun g hg => ?_
    simp only [Fm.subs, List.mem_singleton] at hg
    rw [hg]
    exact iha h.2 fun x hx => hs x (by simp [Fm.enc, hx])
  | two n a b iha ihb =>
    intro h hs
    refine fm_top _ h hs fun g hg => ?_
    simp only [Fm.subs, List.mem_cons, List.not_mem_nil, or_false] at hg
    rcases hg with hg | hg <;> rw [hg]
    · exact iha h.2.1 fun x hx => hs x (by simp [Fm.enc, hx])
    · exact ihb h.2.2 fun x hx => hs x (by simp [Fm.enc, hx])
  | ite n a b c iha ihb ihc =>
    intro h hs
    refine fm_top _ h hs fun g hg => ?_
    simp only [Fm.subs, List.mem_cons, List.not_mem_nil, or_false] at hg
    rcases hg with hg | hg | hg <;> rw [hg]
    · exact iha h.2.1 fun x hx => hs x (by simp [Fm.enc, hx])
    · exact ihb h.2.2.1 fun x hx => hs x (by simp [Fm.enc, hx])
    · exact ihc h.2.2.2 fun x hx => hs x (by simp [Fm.enc, hx])
end Go.Proofs.YtpheiojmcafolaaGreatDoor
namespace Go.Proofs.YtpheiojmcafolaaGreatDoor
open Go.RowKit
structure En where
  u : Ud
  up : List Ud
  at_ : List Nd
structure Rq where
  who : Ud
  act : Ud
  what : Ud
  ctx : List Nd
instance udDec : DecidableEq Ud := fun a b => decidable_of_iff (a.ty = b.ty ∧ a.id = b.id) (by cases a; cases b; simp)
instance ndDec : DecidableEq Nd := fun a b => decidable_of_iff (a.op = b.op ∧ a.n = b.n ∧ a.s = b.s ∧ a.t = b.t) (by cases a; cases b; simp)
/-- The first number that is not zero. -/
def fnz (f : Nat → Int) : Nat → Int
  | 0 => 0
  | n + 1 => if fnz f n ≠ 0 then fnz f n else f n
theorem fnz_zero {f : Nat → Int} : ∀ {n : Nat}, (∀ i, i < n → f i = 0) → fnz f n = 0
  | 0, _ => rfl
  | n + 1, h => by rw [fnz, fnz_zero fun i hi => h i (by omega), if_neg (by simp)]; exact h n (by omega)
theorem fnz_at {f : Nat → Int} {k : Nat} (h0 : ∀ i, i < k → f i = 0) (hk : f k ≠ 0) : ∀ {n : Nat}, k < n → fnz f n = f k
  | n + 1, hn => by
    rw [fnz]
    rcases Nat.lt_or_ge k n with h | h
    · rw [fnz_at h0 hk h, if_pos hk]
    · have : k = n := by omega
      subst this
      rw [fnz_zero h0, if_neg (by simp)]
theorem fnz_all {f : Nat → Int} : ∀ {n : Nat}, fnz f n = 0 → ∀ i, i < n → f i = 0
  | n + 1, h, i, hi => by
    rw [fnz] at h
    by_cases h1 : fnz f n = 0
    · rw [if_neg (by simp [h1])] at h
      rcases Nat.lt_or_ge i n with h2 | h2
      · exact fnz_all h1 i h2
      · have : i = n := by omega
        rw [this]; exact h
    · rw [if_pos h1] at h; exact absurd h h1
def opH (v : List Nd) : Int := match v with | [] => 0 | x :: _ => x.op
def nH (v : List Nd) : Int := match v with | [] => 0 | x :: _ => x.n
def upAt (ups : List Ud) (i : Nat) : Int := match ups[i]? with
  | none => 0
  | some p => if udErr p ≠ 0 then udErr p else if p ∈ ups.take i then 6 else 0
def upsErr (ups : List Ud) : Int := fnz (upAt ups) ups.length
def entOne (e : En) : Int := if 6 < e.up.length then 4 else if upsErr e.up ≠ 0 then upsErr e.up else if valErr e.at_ ≠ 0 then valErr e.at_ else if opH e.at_ = 6 then 0 else 2
def entAt (es : List En) (i : Nat) : Int := match es[i]? with
  | none => 0
  | some e => if udErr e.u ≠ 0 then udErr e.u else if e.u ∈ (es.take i).map En.u then 6 else entOne e
/-- Those above one in a store, as they stand there. -/
def upOf (es : List En) (u : Ud) : List Ud := match es.find? (fun e => decide (e.u = u)) with
  | none => []
  | some e => e.up
/-- All that are above one, behind what was met. -/
def abv (es : List En) : Nat → Ud → List Ud → List Ud
  | 0, _, met => met
  | k + 1, u, met => (upOf es u).foldl (fun m p => if p ∈ m then m else abv es k p (m ++ [p])) met
def cycB (es : List En) : Bool := es.any fun e => decide (e.u ∈ abv es 100 e.u [])
def entErr (es : List En) : Int := if 16 < es.length then 4 else if fnz (entAt es) es.length ≠ 0 then fnz (entAt es) es.length else if cycB es = true then 7 else 0
/-- Is one another one, or below it? -/
def inB (es : List En) (a b : Ud) : Bool := decide (b ∈ abv es 100 a [a])
def rqErr (q : Rq) : Int := if udErr q.who ≠ 0 then udErr q.who else if udErr q.act ≠ 0 then udErr q.act else if udErr q.what ≠ 0 then udErr q.what else if valErr q.ctx ≠ 0 then valErr q.ctx else if opH q.ctx = 6 then 0 else 2

inductive Rs (α : Type) where
  | ok (v : α)
  | bad (k : Int)
def Rs.bind {α β : Type} (r : Rs α) (f : α → Rs β) : Rs β := match r with
  | .ok v => f v
  | .bad k => .bad k
def bN (b : Bool) : Nd := ⟨1, if b = true then 1 else 0, ⟨#[]⟩, ⟨#[]⟩⟩
def nN (n : Int) : Nd := ⟨2, n, ⟨#[]⟩, ⟨#[]⟩⟩
def eN (u : Ud) : Nd := ⟨4, 0, u.ty, u.id⟩
def udH (v : List Nd) : Ud := match v with | [] => ⟨⟨#[]⟩, ⟨#[]⟩⟩ | x :: _ => ⟨x.s, x.t⟩
def sH (v : List Nd) : ByteArray := match v with | [] => ⟨#[]⟩ | x :: _ => x.s
def mustV (r : Rs (List Nd)) (op : Int) : Rs (List Nd) := r.bind fun v => if opH v = op then .ok v else .bad 2
def inR (n : Int) : Bool := decide (-9223372036854775808 ≤ n) && decide (n ≤ 9223372036854775807)
/-- A sum, a difference, a product. -/
def numR (op a b : Int) : Rs Int :=
  if op = 17 then (if inR (a + b) = true then .ok (a + b) else .bad 5)
  else if op = 18 then (if inR (a - b) = true then .ok (a - b) else .bad 5)
  else if op = 19 then (if inR (a * b) = true then .ok (a * b) else .bad 5)
  else .bad 1
/-- A sign of a pattern: none: any bytes. -/
def sgnsL : List UInt8 → List (Option UInt8)
  | [] => []
  | 42 :: r => none :: sgnsL r
  | 92 :: 42 :: r => some 42 :: sgnsL r
  | c :: r => some c :: sgnsL r
/-- Is a text what a pattern stands for? -/
def likeL : List (Option UInt8) → List UInt8 → Bool
  | [], [] => true
  | [], _ :: _ => false
  | none :: p, [] => likeL p []
  | none :: p, c :: s => likeL p (c :: s) || likeL (none :: p) s
  | some _ :: _, [] => false
  | some b :: p, c :: s => b == c && likeL p s
  termination_by p s => p.length + s.length
def likeR (p s : List UInt8) : Rs Bool := if textErr p ≠ 0 then .bad (textErr p) else if textErr s ≠ 0 then .bad (textErr s) else .ok (likeL (sgnsL p) s)
/-- The parts of a set or a record; a record's stand behind their names. -/
def partsV (v : List Nd) : List (List Nd) := kidsGo v.tail.length v.tail
def partsR (v : List Nd) : Rs (List (List Nd)) := if valErr v ≠ 0 then .bad (valErr v) else if opH v = 5 then .ok (partsV v) else if opH v = 6 then .ok ((partsV v).map List.tail) else .bad 2
def getR (v : List Nd) (s : ByteArray) : Rs (List Nd) :=
  if valErr v ≠ 0 then .bad (valErr v) else if opH v = 6 then
    (match (partsV v).find? (fun p => decide (sH p = s)) with
      | some p => .ok p.tail
      | none => .bad 3)
  else .bad 2
/-- The record of names and values. -/
def recGo : List (ByteArray × List Nd) → List (List UInt8) → Int
  | [], _ => 0
  | (s, v) :: r, met => if nameErr s.toList ≠ 0 then nameErr s.toList else if s.toList ∈ met then 6 else if valErr v ≠ 0 then valErr v else recGo r (met ++ [s.toList])
def recNodes (fs : List (ByteArray × List Nd)) : List Nd := ⟨6, fs.length, ⟨#[]⟩, ⟨#[]⟩⟩ :: (sortN (fs.map fun f => ⟨7, 0, f.1, ⟨#[]⟩⟩ :: f.2)).flatten
def recR (fs : List (ByteArray × List Nd)) : Rs (List Nd) := if recGo fs [] ≠ 0 then .bad (recGo fs []) else if 200 < (recNodes fs).length then .bad 4 else .ok (recNodes fs)
def setR (vs : List (List Nd)) : Rs (List Nd) := if (setOfP vs).2 ≠ 0 then .bad (setOfP vs).2 else .ok (setOfP vs).1
def bagHas (s v : List Nd) : Rs Bool := if valErr s ≠ 0 then .bad (valErr s) else if valErr v ≠ 0 then .bad (valErr v) else if opH s = 5 then .ok ((partsV s).any fun p => decide (p = v)) else .bad 2
def bagTwo (f : List (List Nd) → List (List Nd) → Bool) (s t : List Nd) : Rs Bool := if valErr s ≠ 0 then .bad (valErr s) else if valErr t ≠ 0 then .bad (valErr t) else if opH s = 5 ∧ opH t = 5 then .ok (f (partsV s) (partsV t)) else .bad 2
def bagAll (s t : List Nd) : Rs Bool := bagTwo (fun a b => b.all fun p => decide (p ∈ a)) s t
def bagAny (s t : List Nd) : Rs Bool := bagTwo (fun a b => b.any fun p => decide (p ∈ a)) s t
def eitherR (op : Int) (ra rb : Rs (List Nd)) : Rs (List Nd) := (mustV ra 1).bind fun a => if (nH a == 1) = (op == 12) then .ok a else mustV rb 1
def choiceR (rc ra rb : Rs (List Nd)) : Rs (List Nd) := (mustV rc 1).bind fun c => if nH c = 1 then ra else rb
def recOf (es : List En) (v : List Nd) : Rs (Option (List Nd)) :=
  if opH v = 6 then .ok (some v) else if opH v = 4 then .ok ((es.find? fun e => decide (e.u = udH v)).map En.at_) else .bad 2
def singleR (es : List En) (x : Nd) (v : List Nd) : Rs (List Nd) :=
  if x.op = 9 then (mustV (.ok v) 1).bind fun v => .ok [bN (nH v == 0)]
  else if x.op = 10 then (mustV (.ok v) 2).bind fun v => (numR 18 0 (nH v)).bind fun n => .ok [nN n]
  else if x.op = 23 then (mustV (.ok v) 3).bind fun v => (likeR x.s.toList (sH v).toList).bind fun b => .ok [bN b]
  else if x.op = 24 then (mustV (.ok v) 4).bind fun v => .ok [bN (decide (sH v = x.s))]
  else (recOf es v).bind fun r => match r with
    | none => if x.op = 21 then .ok [bN false] else .bad 8
    | some r => if x.op = 21 then (match getR r x.s with | .ok _ => .ok [bN true] | .bad _ => .ok [bN false]) else getR r x.s
def inR' (es : List En) (a b : List Nd) : Rs Bool :=
  (mustV (.ok a) 4).bind fun a => (if opH b = 5 then partsR b else .ok [b]).bind fun tops => if tops.all (fun t => opH t == 4) = true then .ok (tops.any fun t => inB es (udH a) (udH t)) else .bad 2
def doubleR (es : List En) (op : Int) (a b : List Nd) : Rs (List Nd) :=
  if op = 14 then .ok [bN (decide (a = b))]
  else if op = 20 then (inR' es a b).bind fun r => .ok [bN r]
  else if op = 25 then (bagHas a b).bind fun r => .ok [bN r]
  else if op = 26 then (bagAll a b).bind fun r => .ok [bN r]
  else if op = 27 then (bagAny a b).bind fun r => .ok [bN r]
  else (mustV (.ok a) 2).bind fun a => (mustV (.ok b) 2).bind fun b =>
    if op = 15 then .ok [bN (decide (nH a < nH b))] else if op = 16 then .ok [bN (decide (nH a ≤ nH b))] else (numR op (nH a) (nH b)).bind fun n => .ok [nN n]
def namedR (q : Rq) (s : List UInt8) : Rs (List Nd) :=
  if s = [112, 114, 105, 110, 99, 105, 112, 97, 108] then .ok [eN q.who] else if s = [97, 99, 116, 105, 111, 110] then .ok [eN q.act]
  else if s = [114, 101, 115, 111, 117, 114, 99, 101] then .ok [eN q.what] else if s = [99, 111, 110, 116, 101, 120, 116] then .ok q.ctx else .bad 3
def allR {α : Type} : List (Rs α) → Rs (List α)
  | [] => .ok []
  | r :: rs => r.bind fun v => (allR rs).bind fun vs => .ok (v :: vs)
def evE (es : List En) (q : Rq) : Nat → List Nd → Rs (List Nd)
  | 0, _ => .bad 0
  | _ + 1, [] => .bad 0
  | k + 1, x :: body =>
    if x.op = 1 ∨ x.op = 2 ∨ x.op = 3 ∨ x.op = 4 then .ok [x]
    else if x.op = 8 then namedR q x.s.toList
    else match x.op == 5, x.op == 6, kidsGo body.length body with
      | true, _, ps => (allR (ps.map (evE es q k))).bind setR
      | _, true, ps => (allR (ps.map fun p => evE es q k p.tail)).bind fun vs => recR ((ps.map sH).zip vs)
      | _, _, [a] => (evE es q k a).bind fun v => singleR es x v
      | _, _, [a, b] => if x.op = 11 ∨ x.op = 12 then eitherR x.op (evE es q k a) (evE es q k b) else (evE es q k a).bind fun u => (evE es q k b).bind fun v => doubleR es x.op u v
      | _, _, [c, a, b] => choiceR (evE es q k c) (evE es q k a) (evE es q k b)
      | _, _, _ => .bad 0
/-- The value of an expression; what is wrong is told in order. -/
def valueR (es : List En) (q : Rq) (e : List Nd) : Rs (List Nd) :=
  if entErr es ≠ 0 then .bad (entErr es) else if rqErr q ≠ 0 then .bad (rqErr q) else if treeErr e ≠ 0 then .bad (treeErr e) else evE es q e.length e
end Go.Proofs.YtpheiojmcafolaaGreatDoor
namespace Go.Proofs.YtpheiojmcafolaaGreatDoor
theorem bind_ok {α β : Type} {r : Rs α} {f : α → Rs β} {v : β} (h : r.bind f = .ok v) : ∃ u, r = .ok u ∧ f u = .ok v := by
  cases r with
  | ok u => exact ⟨u, rfl, h⟩
  | bad k => cases h
theorem must_ok {r : Rs (List Nd)} {op : Int} {v : List Nd} (h : mustV r op = .ok v) : r = .ok v ∧ opH v = op := by
  obtain ⟨u, h1, h2⟩ := bind_ok h
  split at h2
  · injection h2 with h2; subst h2; exact ⟨h1, by assumption⟩
  · cases h2
theorem allR_ok {α : Type} : ∀ {rs : List (Rs α)} {vs : List α}, allR rs = .ok vs → vs.length = rs.length ∧ ∀ v ∈ vs, .ok v ∈ rs
  | [], vs, h => by injection h with h; subst h; simp
  | r :: rs, vs, h => by
    obtain ⟨v, h1, h2⟩ := bind_ok h
    obtain ⟨us, h3, h4⟩ := bind_ok h2
    injection h4 with h4
    subst h4
    obtain ⟨i1, i2⟩ := allR_ok h3
    refine ⟨by simp [i1], fun u hu => ?_⟩
    rcases List.mem_cons.1 hu with rfl | hu
    · rw [h1]; simp
    · exact List.mem_cons_of_mem _ (i2 u hu)
theorem kids_sub : ∀ (k : Nat) (l p : List Nd), p ∈ kidsGo k l → ∀ x ∈ p, x ∈ l
  | 0, l, p, h => by simp [kidsGo] at h
  | k + 1, [], p, h => by simp [kidsGo] at h
  | k + 1, y :: l, p, h => by
    rw [kidsGo] at h
    split at h
    · rename_i j hj
      rcases List.mem_cons.1 h with rfl | h
      · exact fun x hx => List.mem_of_mem_take hx
      · exact fun x hx => List.mem_of_mem_drop (kids_sub k _ p h x hx)
    · simp at h
def GoodV (v : List Nd) : Prop := v ≠ [] ∧ NdOk v
def UdZ (u : Ud) : Prop := u.ty.size ≤ 140737488351232 ∧ u.id.size ≤ 140737488351232
theorem bN_good (b : Bool) : GoodV [bN b] := ⟨by simp, by intro x hx; simp at hx; subst hx; exact ⟨Nat.zero_le _, Nat.zero_le _⟩⟩
theorem nN_good (n : Int) : GoodV [nN n] := ⟨by simp, by intro x hx; simp at hx; subst hx; exact ⟨Nat.zero_le _, Nat.zero_le _⟩⟩
theorem eN_good {u : Ud} (h : UdZ u) : GoodV [eN u] := ⟨by simp, by intro x hx; simp at hx; subst hx; exact h⟩
theorem NdOk.sub {a b : List Nd} (h : NdOk b) (hs : ∀ x ∈ a, x ∈ b) : NdOk a := fun x hx => h x (hs x hx)
theorem setOfP_good {vs : List (List Nd)} {v : List Nd} (hv : ∀ p ∈ vs, NdOk p) (h : setR vs = .ok v) : GoodV v := by
  unfold setR at h
  split at h
  · cases h
  · rename_i hk
    injection h with h
    subst h
    unfold setOfP at hk ⊢
    split at hk
    · rename_i h1; exact absurd h1 hk
    · rename_i h1
      rw [if_neg h1]
      split at hk
      · exact absurd (by decide) hk
      · rename_i h2
        rw [if_neg h2]
        refine ⟨by simp [setNodes], fun x hx => ?_⟩
        unfold setNodes at hx
        rcases List.mem_cons.1 hx with rfl | hx
        · exact ⟨Nat.zero_le _, Nat.zero_le _⟩
        · obtain ⟨p, hp, hxp⟩ := List.mem_flatten.1 hx
          exact hv p (mem_setParts hp) x hxp
theorem recR_good {fs : List (ByteArray × List Nd)} {v : List Nd} (hs : ∀ f ∈ fs, f.1.size ≤ 140737488351232) (hv : ∀ f ∈ fs, NdOk f.2) (h : recR fs = .ok v) : GoodV v := by
  unfold recR at h
  split at h
  · cases h
  · split at h
    · cases h
    · injection h with h
      subst h
      refine ⟨by simp [recNodes], fun x hx => ?_⟩
      unfold recNodes at hx
      rcases List.mem_cons.1 hx with rfl | hx
      · exact ⟨Nat.zero_le _, Nat.zero_le _⟩
      · obtain ⟨p, hp, hxp⟩ := List.mem_flatten.1 hx
        have hp' := (sortN_perm _).mem_iff.1 hp
        obtain ⟨f, hf, rfl⟩ := List.mem_map.1 hp'
        rcases List.mem_cons.1 hxp with rfl | hxp
        · exact ⟨hs f hf, Nat.zero_le _⟩
        · exact hv f hf x hxp
theorem vx_rec_parts {v : List Nd} (h : valErr v = 0) (h6 : opH v = 6) : ∀ p ∈ partsV v, ∃ f u, p = f :: u ∧ f.op = 7 ∧ Vx u := by
  have hv := ((val_iff v).1 h).2
  cases hv with
  | leaf n hs h5 h6' h7 => exact absurd h6 h6'
  | set n ps hs h5 => have : n.op = 6 := h6; omega
  | rcd n ps hs h6' hn h1 h2 h3 hc =>
    intro p hp
    have hk : partsV (n :: ps.flatten) = ps := kids_any ps (fun p hp => by
      obtain ⟨f, u, rfl⟩ := h1 p hp
      exact ⟨true, fx_ex (h2 f u hp).1 (h2 f u hp).2 (vx_ex (h3 f u hp))⟩) _ (Nat.le_refl _)
    rw [hk] at hp
    obtain ⟨f, u, rfl⟩ := h1 p hp
    exact ⟨f, u, rfl, (h2 f u hp).1, h3 f u hp⟩
theorem vx_set_parts {v : List Nd} (h : valErr v = 0) (h5 : opH v = 5) : ∀ p ∈ partsV v, Vx p := by
  have hv := ((val_iff v).1 h).2
  cases hv with
  | leaf n hs h5' h6' h7 => exact absurd h5 h5'
  | rcd n ps hs h6 => have : n.op = 5 := h5; omega
  | set n ps hs h5' hn hp hc =>
    intro p hpp
    have hk : partsV (n :: ps.flatten) = ps := kids_any ps (fun p hp' => ⟨false, vx_ex (hp p hp')⟩) _ (Nat.le_refl _)
    rw [hk] at hpp
    exact hp p hpp
theorem vx_good {v : List Nd} (h : Vx v) (hok : NdOk v) : GoodV v := by
  obtain ⟨x, r, e, _⟩ := h.ne
  exact ⟨by rw [e]; simp, hok⟩
theorem parts_sub {v p : List Nd} (h : p ∈ partsV v) : ∀ x ∈ p, x ∈ v := fun x hx => List.mem_of_mem_tail (kids_sub _ _ p h x hx)
theorem getR_good {v w : List Nd} {s : ByteArray} (hv : NdOk v) (h : getR v s = .ok w) : GoodV w := by
  unfold getR at h
  split at h
  · cases h
  · rename_i h0
    have h0' : valErr v = 0 := Classical.not_not.1 h0
    split at h
    · rename_i h6
      split at h
      · rename_i p hp
        injection h with h
        subst h
        have hm := List.mem_of_find?_eq_some hp
        obtain ⟨f, u, rfl, _, hu⟩ := vx_rec_parts h0' h6 p hm
        exact vx_good hu (hv.sub fun x hx => parts_sub hm x (List.mem_cons_of_mem _ hx))
      · cases h
    · cases h
structure EsG (es : List En) : Prop where
  at_ : ∀ e ∈ es, GoodV e.at_
  uz : ∀ e ∈ es, UdZ e.u
  pz : ∀ e ∈ es, ∀ p ∈ e.up, UdZ p
structure RqG (q : Rq) : Prop where
  who : UdZ q.who
  act : UdZ q.act
  what : UdZ q.what
  ctx : GoodV q.ctx
theorem named_good {q : Rq} (hq : RqG q) {s : List UInt8} {v : List Nd} (h : namedR q s = .ok v) : GoodV v := by
  unfold namedR at h
  split at h
  · injection h with h; subst h; exact eN_good hq.who
  · split at h
    · injection h with h; subst h; exact eN_good hq.act
    · split at h
      · injection h with h; subst h; exact eN_good hq.what
      · split at h
        · injection h with h; subst h; exact hq.ctx
        · cases h
theorem single_good {es : List En} (hes : EsG es) {x : Nd} {v w : List Nd} (hv : GoodV v) (h : singleR es x v = .ok w) : GoodV w := by
  unfold singleR at h
  split at h
  · obtain ⟨u, _, h2⟩ := bind_ok h; injection h2 with h2; subst h2; exact bN_good _
  · split at h
    · obtain ⟨u, _, h2⟩ := bind_ok h; obtain ⟨n, _, h3⟩ := bind_ok h2; injection h3 with h3; subst h3; exact nN_good _
    · split at h
      · obtain ⟨u, _, h2⟩ := bind_ok h; obtain ⟨n, _, h3⟩ := bind_ok h2; injection h3 with h3; subst h3; exact bN_good _
      · split at h
        · obtain ⟨u, _, h2⟩ := bind_ok h; injection h2 with h2; subst h2; exact bN_good _
        · obtain ⟨r, h1, h2⟩ := bind_ok h
          cases r with
          | none =>
            simp only at h2
            split at h2
            · injection h2 with h2; subst h2; exact bN_good _
            · cases h2
          | some r =>
            simp only at h2
            have hr : NdOk r := by
              unfold recOf at h1
              split at h1
              · injection h1 with h1; injection h1 with h1; subst h1; exact hv.2
              · split at h1
                · injection h1 with h1
                  obtain ⟨e, he, h1⟩ := Option.map_eq_some_iff.1 h1
                  subst h1
                  exact (hes.at_ e (List.mem_of_find?_eq_some he)).2
                · cases h1
            split at h2
            · split at h2 <;> (injection h2 with h2; subst h2; exact bN_good _)
            · exact getR_good hr h2
theorem double_good {es : List En} {op : Int} {a b w : List Nd} (h : doubleR es op a b = .ok w) : GoodV w := by
  unfold doubleR at h
  split at h
  · injection h with h; subst h; exact bN_good _
  · split at h
    · obtain ⟨u, _, h2⟩ := bind_ok h; injection h2 with h2; subst h2; exact bN_good _
    · split at h
      · obtain ⟨u, _, h2⟩ := bind_ok h; injection h2 with h2; subst h2; exact bN_good _
      · split at h
        · obtain ⟨u, _, h2⟩ := bind_ok h; injection h2 with h2; subst h2; exact bN_good _
        · split at h
          · obtain ⟨u, _, h2⟩ := bind_ok h; injection h2 with h2; subst h2; exact bN_good _
          · obtain ⟨u, _, h2⟩ := bind_ok h
            obtain ⟨u', _, h3⟩ := bind_ok h2
            split at h3
            · injection h3 with h3; subst h3; exact bN_good _
            · split at h3
              · injection h3 with h3; subst h3; exact bN_good _
              · obtain ⟨n, _, h4⟩ := bind_ok h3; injection h4 with h4; subst h4; exact nN_good _
theorem evE_good {es : List En} {q : Rq} (hes : EsG es) (hq : RqG q) : ∀ (k : Nat) (xs : List Nd) {v : List Nd}, NdOk xs → evE es q k xs = .ok v → GoodV v
  | 0, xs, v, _, h => by cases h
  | k + 1, [], v, _, h => by cases h
  | k + 1, x :: body, v, hx, h => by
    have hxx : NdOk [x] := hx.sub (by intro y hy; simp at hy; simp [hy])
    have hb : NdOk body := hx.sub fun y hy => List.mem_cons_of_mem _ hy
    have hkid : ∀ p ∈ kidsGo body.length body, NdOk p := fun p hp => hb.sub (kids_sub _ _ p hp)
    have ih := fun p v (hp : NdOk p) (h : evE es q k p = .ok v) => evE_good hes hq k p hp h
    rw [evE] at h
    split at h
    · injection h with h; subst h; exact ⟨by simp, hxx⟩
    · split at h
      · exact named_good hq h
      · generalize kidsGo body.length body = ps at h hkid
        split at h
        · obtain ⟨vs, h1, h2⟩ := bind_ok h
          refine setOfP_good (fun p hp => ?_) h2
          obtain ⟨y, hy, e⟩ := List.mem_map.1 ((allR_ok h1).2 p hp)
          exact (ih y p (hkid y hy) e).2
        · obtain ⟨vs, h1, h2⟩ := bind_ok h
          refine recR_good (fun f hf => ?_) (fun f hf => ?_) h2
          · have hm := List.of_mem_zip hf
            obtain ⟨p, hp, e⟩ := List.mem_map.1 hm.1
            rw [← e]
            cases p with
            | nil => exact Nat.zero_le _
            | cons y r => exact (hkid _ hp y (by simp)).1
          · have hm := List.of_mem_zip hf
            obtain ⟨y, hy, e⟩ := List.mem_map.1 ((allR_ok h1).2 f.2 hm.2)
            exact (ih y.tail f.2 ((hkid y hy).sub fun z hz => List.mem_of_mem_tail hz) e).2
        · rename_i a h5' h6'
          obtain ⟨u, h1, h2⟩ := bind_ok h
          exact single_good hes (ih a u (hkid a (by simp)) h1) h2
        · rename_i a b h5' h6'
          split at h
          · unfold eitherR at h
            obtain ⟨u, h1, h2⟩ := bind_ok h
            split at h2
            · injection h2 with h2; subst h2; exact ih a _ (hkid a (by simp)) (must_ok h1).1
            · exact ih b v (hkid b (by simp)) (must_ok h2).1
          · obtain ⟨u, h1, h2⟩ := bind_ok h
            obtain ⟨u', h3, h4⟩ := bind_ok h2
            exact double_good h4
        · rename_i c a b h5' h6'
          unfold choiceR at h
          obtain ⟨u, h1, h2⟩ := bind_ok h
          split at h2
          · exact ih a v (hkid a (by simp)) h2
          · exact ih b v (hkid b (by simp)) h2
        · cases h
end Go.Proofs.YtpheiojmcafolaaGreatDoor
namespace Go.Proofs.YtpheiojmcafolaaGreatDoor
/-- What a node tells of its pieces' values. -/
def nodeR (es : List En) (q : Rq) (x : Nd) (ps : List (List Nd)) (f : List Nd → Rs (List Nd)) : Rs (List Nd) :=
  if x.op = 1 ∨ x.op = 2 ∨ x.op = 3 ∨ x.op = 4 then .ok [x]
  else if x.op = 8 then namedR q x.s.toList
  else match x.op == 5, x.op == 6, ps with
    | true, _, ps => (allR (ps.map f)).bind setR
    | _, true, ps => (allR (ps.map fun p => f p.tail)).bind fun vs => recR ((ps.map sH).zip vs)
    | _, _, [a] => (f a).bind fun v => singleR es x v
    | _, _, [a, b] => if x.op = 11 ∨ x.op = 12 then eitherR x.op (f a) (f b) else (f a).bind fun u => (f b).bind fun v => doubleR es x.op u v
    | _, _, [c, a, b] => choiceR (f c) (f a) (f b)
    | _, _, _ => .bad 0
theorem evE_succ (es : List En) (q : Rq) (k : Nat) (x : Nd) (body : List Nd) : evE es q (k + 1) (x :: body) = nodeR es q x (kidsGo body.length body) (evE es q k) := rfl
theorem evE_node (es : List En) (q : Rq) (k : Nat) (x : Nd) {ps : List (List Nd)} (h : ∀ p ∈ ps, ∃ b, Ex (.one b) p) : evE es q (k + 1) (x :: ps.flatten) = nodeR es q x ps (evE es q k) := by
  rw [evE_succ, kids_any ps h _ (Nat.le_refl _)]
theorem nodeR_congr (es : List En) (q : Rq) (x : Nd) (ps : List (List Nd)) {f g : List Nd → Rs (List Nd)} (h : ¬ x.op = 6 → ∀ p ∈ ps, f p = g p) (h6 : x.op = 6 → ∀ p ∈ ps, f p.tail = g p.tail) : nodeR es q x ps f = nodeR es q x ps g := by
  unfold nodeR
  by_cases e6 : x.op = 6
  · have e5 : (x.op == 5) = false := by simp [e6]
    have e6' : (x.op == 6) = true := by simp [e6]
    rw [e5, e6', if_neg (by omega), if_neg (by omega), if_neg (by omega), if_neg (by omega)]
    simp only
    rw [List.map_congr_left fun p hp => h6 e6 p hp]
  · have h' := h e6
    have e6' : (x.op == 6) = false := by simp [e6]
    rw [e6']
    split
    · rfl
    · split
      · rfl
      · cases e5 : (x.op == 5) with
        | true => simp only; rw [List.map_congr_left h']
        | false =>
          match ps, h' with
          | [], _ => rfl
          | [a], h' => simp only; rw [h' a (by simp)]
          | [a, b], h' => simp only; rw [h' a (by simp), h' b (by simp)]
          | [c, a, b], h' => simp only; rw [h' c (by simp), h' a (by simp), h' b (by simp)]
          | _ :: _ :: _ :: _ :: _, _ => rfl
theorem ex_cutE {b : Bool} {xs : List Nd} (h : Ex (.one b) xs) : ∃ (n : Nd) (ps : List (List Nd)), xs = n :: ps.flatten ∧ (n.op == 7) = b ∧ shapedT n = true ∧ ps.length = (ndParts n).toNat ∧ ∀ p ∈ ps, Ex (.one (n.op == 6)) p := by
  cases h with
  | one n body _ hs h7 hb =>
    obtain ⟨ps, h1, h2, h3⟩ := ex_pieces hb
    exact ⟨n, ps, by rw [h2], h7, hs, h1, exk_all h3⟩
theorem part_le {ps : List (List Nd)} {p : List Nd} (h : p ∈ ps) : p.length ≤ ps.flatten.length := by
  obtain ⟨a, b, rfl⟩ := List.append_of_mem h
  simp; omega
theorem fld_tail {p : List Nd} (h : Ex (.one true) p) : Ex (.one false) p.tail ∧ p.tail.length < p.length := by
  cases h with
  | one f body _ hs h7 hb =>
    have h7' : f.op = 7 := by simpa using h7
    have hp : ndParts f = 1 := by simp [ndParts, h7']
    rw [hp, show (f.op == 6) = false from by simp [h7']] at hb
    obtain ⟨ps, h1, h2, h3⟩ := ex_pieces hb
    match ps, h1, h3 with
    | [v], _, h3 => exact ⟨by rw [List.tail_cons, h2]; simpa using h3.1, by simp⟩
theorem evE_fuel (es : List En) (q : Rq) : ∀ (N : Nat) (xs : List Nd), xs.length ≤ N → Ex (.one false) xs → ∀ k j, xs.length ≤ k → xs.length ≤ j → evE es q k xs = evE es q j xs
  | 0, xs, hN, h, _, _, _, _ => by
    obtain ⟨x, y, e, _⟩ := ex_ne h
    rw [e] at hN; simp at hN
  | N + 1, xs, hN, h, k, j, hk, hj => by
    obtain ⟨n, ps, rfl, h7, hs, hc, hex⟩ := ex_cutE h
    rw [List.length_cons] at hN hk hj
    obtain ⟨k, rfl⟩ : ∃ k', k = k' + 1 := ⟨k - 1, by omega⟩
    obtain ⟨j, rfl⟩ : ∃ j', j = j' + 1 := ⟨j - 1, by omega⟩
    rw [evE_node es q k n fun p hp => ⟨_, hex p hp⟩, evE_node es q j n fun p hp => ⟨_, hex p hp⟩]
    refine nodeR_congr es q n ps (fun h6 p hp => ?_) (fun h6 p hp => ?_)
    · have := hex p hp
      rw [show (n.op == 6) = false from by simp [h6]] at this
      have := part_le hp
      exact evE_fuel es q N p (by omega) (by assumption) k j (by omega) (by omega)
    · have h1 := hex p hp
      rw [show (n.op == 6) = true from by simp [h6]] at h1
      obtain ⟨h2, h3⟩ := fld_tail h1
      have := part_le hp
      exact evE_fuel es q N p.tail (by omega) h2 k j (by omega) (by omega)
/-- The value of a right expression. -/
def evX (es : List En) (q : Rq) (xs : List Nd) : Rs (List Nd) := evE es q xs.length xs
theorem evX_node (es : List En) (q : Rq) {x : Nd} {ps : List (List Nd)} (h : ∀ p ∈ ps, Ex (.one (x.op == 6)) p) : evX es q (x :: ps.flatten) = nodeR es q x ps (evX es q) := by
  unfold evX
  rw [List.length_cons, evE_node es q _ x fun p hp => ⟨_, h p hp⟩]
  refine nodeR_congr es q x ps (fun h6 p hp => ?_) (fun h6 p hp => ?_)
  · have h1 := h p hp
    rw [show (x.op == 6) = false from by simp [h6]] at h1
    exact evE_fuel es q _ p (Nat.le_refl _) h1 _ _ (part_le hp) (Nat.le_refl _)
  · have h1 := h p hp
    rw [show (x.op == 6) = true from by simp [h6]] at h1
    obtain ⟨h2, h3⟩ := fld_tail h1
    exact evE_fuel es q _ p.tail (Nat.le_refl _) h2 _ _ (by have := part_le hp; omega) (Nat.le_refl _)
theorem evX_leaf (es : List En) (q : Rq) {x : Nd} (h : x.op = 1 ∨ x.op = 2 ∨ x.op = 3 ∨ x.op = 4) : evX es q [x] = .ok [x] := by
  have := evX_node es q (x := x) (ps := []) (by simp)
  rw [List.flatten_nil] at this
  rw [this]
  unfold nodeR
  rw [if_pos h]
theorem evX_var (es : List En) (q : Rq) {x : Nd} (h : x.op = 8) : evX es q [x] = namedR q x.s.toList := by
  have := evX_node es q (x := x) (ps := []) (by simp)
  rw [List.flatten_nil] at this
  rw [this]
  unfold nodeR
  rw [if_neg (by omega), if_pos h]
theorem evX_one (es : List En) (q : Rq) {x : Nd} {a : List Nd} (h : x.op = 9 ∨ x.op = 10 ∨ x.op = 21 ∨ x.op = 22 ∨ x.op = 23 ∨ x.op = 24) (ha : Ex (.one false) a) : evX es q (x :: a) = (evX es q a).bind fun v => singleR es x v := by
  have e6 : (x.op == 6) = false := by simp; omega
  have e5 : (x.op == 5) = false := by simp; omega
  have := evX_node es q (x := x) (ps := [a]) (by intro p hp; simp at hp; subst hp; rw [e6]; exact ha)
  rw [show [a].flatten = a by simp] at this
  rw [this]
  unfold nodeR
  rw [if_neg (by omega), if_neg (by omega), e5, e6]
theorem evX_and (es : List En) (q : Rq) {x : Nd} {a b : List Nd} (h : x.op = 11 ∨ x.op = 12) (ha : Ex (.one false) a) (hb : Ex (.one false) b) : evX es q (x :: (a ++ b)) = eitherR x.op (evX es q a) (evX es q b) := by
  have e6 : (x.op == 6) = false := by simp; omega
  have e5 : (x.op == 5) = false := by simp; omega
  have := evX_node es q (x := x) (ps := [a, b]) (by intro p hp; simp at hp; rw [e6]; rcases hp with rfl | rfl <;> assumption)
  rw [show [a, b].flatten = a ++ b by simp] at this
  rw [this]
  unfold nodeR
  rw [if_neg (by omega), if_neg (by omega), e5, e6]
  simp only
  rw [if_pos h]
theorem evX_two (es : List En) (q : Rq) {x : Nd} {a b : List Nd} (h : x.op = 14 ∨ x.op = 15 ∨ x.op = 16 ∨ x.op = 17 ∨ x.op = 18 ∨ x.op = 19 ∨ x.op = 20 ∨ x.op = 25 ∨ x.op = 26 ∨ x.op = 27) (ha : Ex (.one false) a) (hb : Ex (.one false) b) :
    evX es q (x :: (a ++ b)) = (evX es q a).bind fun u => (evX es q b).bind fun v => doubleR es x.op u v := by
  have e6 : (x.op == 6) = false := by simp; omega
  have e5 : (x.op == 5) = false := by simp; omega
  have := evX_node es q (x := x) (ps := [a, b]) (by intro p hp; simp at hp; rw [e6]; rcases hp with rfl | rfl <;> assumption)
  rw [show [a, b].flatten = a ++ b by simp] at this
  rw [this]
  unfold nodeR
  rw [if_neg (by omega), if_neg (by omega), e5, e6]
  simp only
  rw [if_neg (by omega)]
theorem evX_if (es : List En) (q : Rq) {x : Nd} {c a b : List Nd} (h : x.op = 13) (hc : Ex (.one false) c) (ha : Ex (.one false) a) (hb : Ex (.one false) b) : evX es q (x :: (c ++ (a ++ b))) = choiceR (evX es q c) (evX es q a) (evX es q b) := by
  have e6 : (x.op == 6) = false := by simp; omega
  have e5 : (x.op == 5) = false := by simp; omega
  have := evX_node es q (x := x) (ps := [c, a, b]) (by intro p hp; simp at hp; rw [e6]; rcases hp with rfl | rfl | rfl <;> assumption)
  rw [show [c, a, b].flatten = c ++ (a ++ b) by simp] at this
  rw [this]
  unfold nodeR
  rw [if_neg (by omega), if_neg (by omega), e5, e6]
end Go.Proofs.YtpheiojmcafolaaGreatDoor
namespace Go.Proofs.YtpheiojmcafolaaGreatDoor
theorem valsErr_all : ∀ {vs : List (List Nd)}, valsErr vs = 0 → ∀ v ∈ vs, valErr v = 0
  | v :: r, h, u, hu => by
    rw [valsErr] at h
    split at h
    · rename_i h1; exact absurd h h1
    · rename_i h1
      rcases List.mem_cons.1 hu with rfl | hu
      · exact Classical.not_not.1 h1
      · exact valsErr_all h u hu
theorem setR_vx {vs : List (List Nd)} {v : List Nd} (h : setR vs = .ok v) : valErr v = 0 := by
  unfold setR at h
  split at h
  · cases h
  · rename_i hk
    injection h with h
    subst h
    unfold setOfP at hk ⊢
    split at hk
    · rename_i h1; exact absurd h1 hk
    · rename_i h1
      rw [if_neg h1]
      split at hk
      · exact absurd (by decide) hk
      · rename_i h2
        rw [if_neg h2]
        have hv : ∀ p ∈ vs, Vx p := fun p hp => ((val_iff p).1 (valsErr_all (Classical.not_not.1 h1) p hp)).2
        refine (val_iff _).2 ⟨by simp only; omega, ?_⟩
        exact .set _ (setParts vs) (by simp [shapedV, ByteArray.toList_mk]) rfl rfl (fun p hp => hv p (mem_setParts hp)) (chain_of (setParts_pw vs) (by simp))
theorem recGo_all : ∀ {fs : List (ByteArray × List Nd)} {met : List (List UInt8)}, recGo fs met = 0 → (∀ f ∈ fs, nameErr f.1.toList = 0 ∧ f.1.toList ∉ met ∧ valErr f.2 = 0) ∧ (fs.map fun f => f.1.toList).Nodup
  | [], met, _ => by simp
  | (s, v) :: r, met, h => by
    rw [recGo] at h
    split at h
    · rename_i h1; exact absurd h h1
    · rename_i h1
      split at h
      · exact absurd h (by decide)
      · rename_i h2
        split at h
        · rename_i h3; exact absurd h h3
        · rename_i h3
          obtain ⟨i1, i2⟩ := recGo_all h
          refine ⟨fun f hf => ?_, ?_⟩
          · rcases List.mem_cons.1 hf with rfl | hf
            · exact ⟨Classical.not_not.1 h1, h2, Classical.not_not.1 h3⟩
            · have := i1 f hf
              exact ⟨this.1, fun hm => this.2.1 (by simp [hm]), this.2.2⟩
          · rw [List.map_cons, List.nodup_cons]
            refine ⟨fun hm => ?_, i2⟩
            obtain ⟨f, hf, e⟩ := List.mem_map.1 hm
            exact (i1 f hf).2.1 (by simp [e])
theorem recR_vx {fs : List (ByteArray × List Nd)} {v : List Nd} (h : recR fs = .ok v) : valErr v = 0 := by
  unfold recR at h
  split at h
  · cases h
  · rename_i h1
    split at h
    · cases h
    · rename_i h2
      injection h with h
      subst h
      obtain ⟨i1, i2⟩ := recGo_all (Classical.not_not.1 h1)
      have hF : ∀ p ∈ fs.map (fun f => (⟨7, 0, f.1, ⟨#[]⟩⟩ : Nd) :: f.2), Fx p := fun p hp => by
        obtain ⟨f, hf, rfl⟩ := List.mem_map.1 hp
        have := i1 f hf
        exact ⟨_, _, rfl, rfl, by simp [shapedV, this.1, ByteArray.toList_mk], ((val_iff _).1 this.2.2).2⟩
      have hE : ∀ p ∈ fs.map (fun f => (⟨7, 0, f.1, ⟨#[]⟩⟩ : Nd) :: f.2), Ex (.one true) p := fun p hp => by
        obtain ⟨f, u, rfl, a, b, c⟩ := hF p hp
        exact fx_ex a b (vx_ex c)
      have hnd : (namesOf (fs.map fun f => (⟨7, 0, f.1, ⟨#[]⟩⟩ : Nd) :: f.2)).Nodup := by
        have : namesOf (fs.map fun f => (⟨7, 0, f.1, ⟨#[]⟩⟩ : Nd) :: f.2) = fs.map fun f => f.1.toList := by unfold namesOf; rw [List.map_map]; rfl
        rw [this]; exact i2
      refine (val_iff _).2 ⟨by omega, ?_⟩
      unfold recNodes
      exact .rcd' (by simp [shapedV, ByteArray.toList_mk]) rfl (by rw [(sortN_perm _).length_eq, List.length_map]) (fun p hp => hF p ((sortN_perm _).mem_iff.1 hp)) (exk_rise (nodup_rise hE hnd))
theorem one_vx {x : Nd} (h : shapedV x = true) (h5 : ¬ x.op = 5) (h6 : ¬ x.op = 6) (h7 : ¬ x.op = 7) : valErr [x] = 0 := (val_iff _).2 ⟨by simp, .leaf x h h5 h6 h7⟩
theorem bN_vx (b : Bool) : valErr [bN b] = 0 := one_vx (by cases b <;> simp [bN, shapedV, ByteArray.toList_mk]) (by simp [bN]) (by simp [bN]) (by simp [bN])
theorem nN_vx (n : Int) : valErr [nN n] = 0 := one_vx (by simp [nN, shapedV, ByteArray.toList_mk]) (by simp [nN]) (by simp [nN]) (by simp [nN])
theorem eN_vx {u : Ud} (h : udErr u = 0) : valErr [eN u] = 0 := by
  have h' : nameErr u.ty.toList = 0 ∧ textErr u.id.toList = 0 := by
    unfold udErr at h
    split at h
    · exact ⟨by assumption, h⟩
    · exact absurd h (by assumption)
  exact one_vx (by simp [eN, shapedV, h'.1, h'.2]) (by simp [eN]) (by simp [eN]) (by simp [eN])
theorem len_of_parts {v p : List Nd} (h : valErr v = 0) (hp : p ∈ partsV v) : p.length ≤ 200 := by
  have hl := ((val_iff v).1 h).1
  have hv := ((val_iff v).1 h).2
  cases hv with
  | leaf n hs h5' h6' h7 => simp [partsV, kidsGo] at hp
  | set n ps hs h5' hn hv hc =>
    have hk : partsV (n :: ps.flatten) = ps := kids_any ps (fun p hp' => ⟨false, vx_ex (hv p hp')⟩) _ (Nat.le_refl _)
    rw [hk] at hp
    have := part_le hp
    rw [List.length_cons] at hl; omega
  | rcd n ps hs h6' hn h1 h2 h3 hc =>
    have hk : partsV (n :: ps.flatten) = ps := kids_any ps (fun p hp => by
      obtain ⟨f, u, rfl⟩ := h1 p hp
      exact ⟨true, fx_ex (h2 f u hp).1 (h2 f u hp).2 (vx_ex (h3 f u hp))⟩) _ (Nat.le_refl _)
    rw [hk] at hp
    have := part_le hp
    rw [List.length_cons] at hl; omega
theorem getR_vx {v w : List Nd} {s : ByteArray} (h : getR v s = .ok w) : valErr w = 0 := by
  unfold getR at h
  split at h
  · cases h
  · rename_i h0
    have h0' : valErr v = 0 := Classical.not_not.1 h0
    split at h
    · rename_i h6
      split at h
      · rename_i p hp
        injection h with h
        subst h
        have hm := List.mem_of_find?_eq_some hp
        have hl := len_of_parts h0' hm
        obtain ⟨f, u, rfl, _, hu⟩ := vx_rec_parts h0' h6 p hm
        rw [List.length_cons] at hl
        exact (val_iff _).2 ⟨by rw [List.tail_cons]; omega, hu⟩
      · cases h
    · cases h
theorem single_vx {es : List En} {x : Nd} {v w : List Nd} (h : singleR es x v = .ok w) : valErr w = 0 := by
  unfold singleR at h
  split at h
  · obtain ⟨u, _, h2⟩ := bind_ok h; injection h2 with h2; subst h2; exact bN_vx _
  · split at h
    · obtain ⟨u, _, h2⟩ := bind_ok h; obtain ⟨n, _, h3⟩ := bind_ok h2; injection h3 with h3; subst h3; exact nN_vx _
    · split at h
      · obtain ⟨u, _, h2⟩ := bind_ok h; obtain ⟨n, _, h3⟩ := bind_ok h2; injection h3 with h3; subst h3; exact bN_vx _
      · split at h
        · obtain ⟨u, _, h2⟩ := bind_ok h; injection h2 with h2; subst h2; exact bN_vx _
        · obtain ⟨r, h1, h2⟩ := bind_ok h
          cases r with
          | none =>
            simp only at h2
            split at h2
            · injection h2 with h2; subst h2; exact bN_vx _
            · cases h2
          | some r =>
            simp only at h2
            split at h2
            · split at h2 <;> (injection h2 with h2; subst h2; exact bN_vx _)
            · exact getR_vx h2
theorem double_vx {es : List En} {op : Int} {a b w : List Nd} (h : doubleR es op a b = .ok w) : valErr w = 0 := by
  unfold doubleR at h
  split at h
  · injection h with h; subst h; exact bN_vx _
  · split at h
    · obtain ⟨u, _, h2⟩ := bind_ok h; injection h2 with h2; subst h2; exact bN_vx _
    · split at h
      · obtain ⟨u, _, h2⟩ := bind_ok h; injection h2 with h2; subst h2; exact bN_vx _
      · split at h
        · obtain ⟨u, _, h2⟩ := bind_ok h; injection h2 with h2; subst h2; exact bN_vx _
        · split at h
          · obtain ⟨u, _, h2⟩ := bind_ok h; injection h2 with h2; subst h2; exact bN_vx _
          · obtain ⟨u, _, h2⟩ := bind_ok h
            obtain ⟨u', _, h3⟩ := bind_ok h2
            split at h3
            · injection h3 with h3; subst h3; exact bN_vx _
            · split at h3
              · injection h3 with h3; subst h3; exact bN_vx _
              · obtain ⟨n, _, h4⟩ := bind_ok h3; injection h4 with h4; subst h4; exact nN_vx _
theorem shapedT_V {x : Nd} (h : shapedT x = true) (ho : x.op = 1 ∨ x.op = 2 ∨ x.op = 3 ∨ x.op = 4) : valErr [x] = 0 := by
  unfold shapedT at h
  rw [if_pos ho] at h
  simpa using h
theorem evE_vx {es : List En} {q : Rq} (hq : rqErr q = 0) : ∀ (k : Nat) (xs : List Nd) {v : List Nd}, Ex (.one false) xs → evE es q k xs = .ok v → valErr v = 0
  | 0, xs, v, _, h => by cases h
  | k + 1, xs, v, hx, h => by
    obtain ⟨n, ps, rfl, h7, hs, hc, hex⟩ := ex_cutE hx
    have ih := fun p v (hp : Ex (.one false) p) (h : evE es q k p = .ok v) => evE_vx hq k p hp h
    rw [evE_node es q k n fun p hp => ⟨_, hex p hp⟩] at h
    unfold nodeR at h
    have hq' : udErr q.who = 0 ∧ udErr q.act = 0 ∧ udErr q.what = 0 ∧ valErr q.ctx = 0 := by
      unfold rqErr at hq
      repeat' split at hq
      all_goals first
        | exact absurd hq (by assumption)
        | exact absurd hq (by decide)
        | exact ⟨Classical.not_not.1 (by assumption), Classical.not_not.1 (by assumption), Classical.not_not.1 (by assumption), Classical.not_not.1 (by assumption)⟩
    split at h
    · rename_i ho
      injection h with h; subst h
      exact shapedT_V hs ho
    · split at h
      · unfold namedR at h
        split at h
        · injection h with h; subst h; exact eN_vx hq'.1
        · split at h
          · injection h with h; subst h; exact eN_vx hq'.2.1
          · split at h
            · injection h with h; subst h; exact eN_vx hq'.2.2.1
            · split at h
              · injection h with h; subst h; exact hq'.2.2.2
              · cases h
      · by_cases e6 : n.op = 6
        · have e5 : (n.op == 5) = false := by simp [e6]
          have e6' : (n.op == 6) = true := by simp [e6]
          rw [e5, e6'] at h
          simp only at h
          obtain ⟨vs, h1, h2⟩ := bind_ok h
          exact recR_vx h2
        · have e6' : (n.op == 6) = false := by simp [e6]
          rw [e6'] at h hex
          cases e5 : (n.op == 5) with
          | true =>
            rw [e5] at h
            simp only at h
            obtain ⟨vs, h1, h2⟩ := bind_ok h
            exact setR_vx h2
          | false =>
            rw [e5] at h
            match ps, hex with
            | [], _ => simp only at h; cases h
            | [a], hex =>
              simp only at h
              obtain ⟨u, h1, h2⟩ := bind_ok h
              exact single_vx h2
            | [a, b], hex =>
              simp only at h
              split at h
              · unfold eitherR at h
                obtain ⟨u, h1, h2⟩ := bind_ok h
                split at h2
                · injection h2 with h2; subst h2; exact ih a _ (hex a (by simp)) (must_ok h1).1
                · exact ih b v (hex b (by simp)) (must_ok h2).1
              · obtain ⟨u, h1, h2⟩ := bind_ok h
                obtain ⟨u', h3, h4⟩ := bind_ok h2
                exact double_vx h4
            | [c, a, b], hex =>
              simp only at h
              unfold choiceR at h
              obtain ⟨u, h1, h2⟩ := bind_ok h
              split at h2
              · exact ih a v (hex a (by simp)) h2
              · exact ih b v (hex b (by simp)) h2
            | _ :: _ :: _ :: _ :: _, _ => simp only at h; cases h
/-- A value that is a truth is one of the two. -/
theorem bool_val {v : List Nd} (h : valErr v = 0) (h1 : opH v = 1) : v = [bN (nH v == 1)] := by
  have hv := ((val_iff v).1 h).2
  cases hv with
  | set n ps hs h5 => have : n.op = 1 := h1; omega
  | rcd n ps hs h6 => have : n.op = 1 := h1; omega
  | leaf n hs h5 h6 h7 =>
    have h1' : n.op = 1 := h1
    unfold shapedV at hs
    rw [if_pos h1'] at hs
    obtain ⟨op, nn, s, t⟩ := n
    simp only at h1' hs
    subst h1'
    simp only [Bool.and_eq_true, Bool.or_eq_true, beq_iff_eq, List.isEmpty_iff] at hs
    obtain ⟨⟨h0, h2⟩, h3⟩ := hs
    have e1 : s = ⟨#[]⟩ := by rw [ByteArray.toList_eq] at h2; exact ByteArray.ext (Array.toList_inj.1 (by simpa using h2))
    have e2 : t = ⟨#[]⟩ := by rw [ByteArray.toList_eq] at h3; exact ByteArray.ext (Array.toList_inj.1 (by simpa using h3))
    subst e1 e2
    show [_] = [bN (nn == 1)]
    rcases h0 with rfl | rfl <;> rfl
end Go.Proofs.YtpheiojmcafolaaGreatDoor
