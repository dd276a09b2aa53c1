/-
 THE WALKS: the reader of a value's nodes.
 ARGUMENTS that are lists of any kind of values, opened: what the row's reading says of memory. Facts of the seat's program that each row asks.
 ARGUMENTS that are lists of nodes, opened: what the row's reading says of memory. Facts of the seat's program that each row asks.
 PLAIN WORDS: the pieces of an expression; other names. PLAIN LAW for MoveApart. PLAIN LAW for MoveApart. PLAIN WORDS: pieces in the order of their names; a name that stands there twice. PLAIN WORDS: the order of lists of nodes; values, piece by piece. PLAIN WORDS: values, piece by piece; a value and what the reader of values says. PLAIN LAW: what is moved stays what it is; there and back.
-/
import Derived.Test.YtpheiojmcafolaaGreatDoorSy01
import Derived.Deep.QuietTactic
import Derived.BigQuiet
import Derived.Test.YtpheiojmcafolaaGreatDoorProg
import Derived.Deep.Slices
import Derived.Deep.Fields
import Derived.ChangeSame
import Derived.SizedLaws
import Derived.ProofKit
import Derived.Sort.Walk0
import Derived.Sort.Statements
import Derived.Shelf.SlSortCmp.Insertion
namespace Go.Proofs.YtpheiojmcafolaaGreatDoor
open Go.RowKit
def rdr (A : Option Addr) (n c i : Nat) : Array Value := #[.slice A n c, .int .i64 i]
def wrongV : List PanicEntry := [{ v := .iface 157 (.agg #[]), recovered := false }]
theorem rdr_step {w : World} {rb : Nat} {A : Option Addr} {n c i : Nat} {T : TypeId} (h : Blk w rb T (rdr A n c i)) : Blk (w.setCell ⟨rb, 1, none⟩ (.int .i64 ((i : Int) + 1))) rb T (rdr A n c (i + 1)) := h.set 1 _
theorem NdSl.only {w w' : World} {B rb : Nat} {A : Option Addr} {xs : List Nd} (h : NdSl w rb A xs) (ho : Only B rb w w') (hB : rb ≤ B) : NdSl w' rb A xs := h.keep fun p hp => ho.cell (by omega) (by omega)
theorem NdSl.piece {w : World} {B b o : Nat} {e : List Nd} (h : NdSl w B (some ⟨b, o, none⟩) e) (i j : Nat) : NdSl w B (some ⟨b, o + i * 4, none⟩) (piece e i j) := fun hne => by
 have he : e ≠ [] := by rintro rfl; simp [Proofs.YtpheiojmcafolaaGreatDoor.piece] at hne
 obtain ⟨b', o', h1, hb, hc⟩ := h he;injection h1 with h1; injection h1 with h1 h2; subst h1 h2
 refine ⟨b, o + i * 4, rfl, hb, fun k x hx => ?_⟩;have := hc (i + k) x (by
  simp only [Proofs.YtpheiojmcafolaaGreatDoor.piece, List.getElem?_take] at hx;split at hx
  · rwa [List.getElem?_drop] at hx
  · cases hx)
 rwa [show o + i * 4 + k * 4 = o + (i + k) * 4 from by omega]
def PartOk (e : List Nd) (f i : Nat) : Prop := ∀ (w : World) (rb : Nat) (A : Option Addr) (c : Nat), 2 * (e.length - i) ≤ f → i ≤ e.length → e.length ≤ c → c ≤ 9223372036854775807 → NdOk e →
 Blk w rb 160 (rdr A e.length c i) → NdSl w rb A e →
 (∀ j, vGo e f .one i = some j → Calls Tryz.prog 96 #[.pointer (some ⟨rb, 0, none⟩)] w fun r w' => ∃ A' c', r = .returned (.slice A' (piece e i j).length c') ∧ NdSl w' rb A' (piece e i j) ∧ Blk w' rb 160 (rdr A e.length c j) ∧ Only w.heap.size rb w w') ∧
 (vGo e f .one i = none → Calls Tryz.prog 96 #[.pointer (some ⟨rb, 0, none⟩)] w fun r w' => r = .panicked wrongV ∧ Only w.heap.size rb w w')
set_option maxRecDepth 100000 in
set_option maxHeartbeats 1600000 in
theorem part_out (e : List Nd) (f i : Nat) (h : e.length ≤ i) : PartOk e f i := by
 intro w rb A c hf hi hc hcm hok hblk hsl;have hrb := hblk.lt;have k0 : w.cell? ⟨rb, 0, none⟩ = some (.slice A e.length c) := hblk.cell 0;have k1 : w.cell? ⟨rb, 1, none⟩ = some (.int .i64 i) := hblk.cell 1;have z1 : w.frozen? ⟨rb, 1, none⟩ = false := hblk.frozen 1;have HN : Hid (e[i]? = none) := List.getElem?_eq_none h;have HB := Lib.hid hblk;have HS := Lib.hid hsl;clear hblk hsl;refine ⟨fun j hj => ?_, fun hj => ?_⟩
 · have hn := HN.out;cases f <;> simp [vGo, hn] at hj
 · clear hj;go_enter Tryz.func96, Tryz.ntmps96
   go_wp2_with fail
   exact ⟨rfl, rfl, Only.refl _ _ _⟩
set_option maxRecDepth 100000 in
set_option maxHeartbeats 1600000 in
theorem part_bad (e : List Nd) (f i : Nat) (x : Nd) (hx : e[i]? = some x) (hsh : shapedV x = false) : PartOk e (f + 1) i := by
 intro w rb A c hf hi hc hcm hok hblk hsl;have hrb := hblk.lt;have k0 : w.cell? ⟨rb, 0, none⟩ = some (.slice A e.length c) := hblk.cell 0;have k1 : w.cell? ⟨rb, 1, none⟩ = some (.int .i64 i) := hblk.cell 1;have z1 : w.frozen? ⟨rb, 1, none⟩ = false := hblk.frozen 1;have hil : i < e.length := (List.getElem?_eq_some_iff.1 hx).1;obtain ⟨b, o, rfl, hb, hcs⟩ := hsl.at_ hil;obtain ⟨d0, d1, d2, d3⟩ := hcs i x hx;obtain ⟨hxs, hxt⟩ := hok x (List.mem_of_getElem? hx);have hbw : b < w.heap.size := by omega
 have HX := Lib.hid hx;have HB := Lib.hid hblk;have HS := Lib.hid hsl;have HOK := Lib.hid hok;clear hx hblk hsl hcs hok;refine ⟨fun j hj => ?_, fun hj => ?_⟩
 · have hn := HX.out;simp [vGo, hn, hsh] at hj
 · clear hj;go_enter Tryz.func96, Tryz.ntmps96
   go_wp2_with (go_at_call 129; refine (val_shaped x.op x.n x.s x.t _ hxs hxt).mono ?_; rintro r w1 ⟨rfl, hb1⟩)
   exact ⟨rfl, rfl, Only.of_below hb1 (Nat.le_refl _)⟩
set_option maxRecDepth 100000 in
set_option maxHeartbeats 1600000 in
theorem part_fld (e : List Nd) (f i : Nat) (x : Nd) (hx : e[i]? = some x) (hsh : shapedV x = true) (hop : x.op = 7) : PartOk e (f + 1) i := by
 intro w rb A c hf hi hc hcm hok hblk hsl;have hrb := hblk.lt;have k0 : w.cell? ⟨rb, 0, none⟩ = some (.slice A e.length c) := hblk.cell 0;have k1 : w.cell? ⟨rb, 1, none⟩ = some (.int .i64 i) := hblk.cell 1;have z1 : w.frozen? ⟨rb, 1, none⟩ = false := hblk.frozen 1;have hil : i < e.length := (List.getElem?_eq_some_iff.1 hx).1;obtain ⟨b, o, rfl, hb, hcs⟩ := hsl.at_ hil;obtain ⟨d0, d1, d2, d3⟩ := hcs i x hx;obtain ⟨hxs, hxt⟩ := hok x (List.mem_of_getElem? hx);have hbw : b < w.heap.size := by omega
 have HX := Lib.hid hx;have HB := Lib.hid hblk;have HS := Lib.hid hsl;have HOK := Lib.hid hok;clear hx hblk hsl hcs hok;refine ⟨fun j hj => ?_, fun hj => ?_⟩
 · have hn := HX.out;simp [vGo, hn, hsh, hop] at hj
 · clear hj;have HOP := Lib.hid hop;have p5 : (x.op == 5) = false := by simp [hop]
   have p6 : (x.op == 6) = false := by simp [hop]
   have p7 : (x.op == 7) = true := by simp [hop]
   clear hop;go_enter Tryz.func96, Tryz.ntmps96
   go_wp2_with (go_at_call 129; refine (val_shaped x.op x.n x.s x.t _ hxs hxt).mono ?_; rintro r w1 ⟨rfl, hb1⟩; obtain ⟨hcc, hff⟩ := bcell hb1; have g1 : rb < w1.heap.size := Nat.lt_of_lt_of_le hrb hb1.size)
   have o1 := Only.of_below (g := rb) hb1 (Nat.le_refl _);have hz1 := hb1.size;exact ⟨rfl, rfl, by (repeat (first | assumption | exact Only.refl _ _ _ | apply Only.drew | apply Only.drewN | (refine Only.alloc ?_ (by first | exact Nat.le_refl _ | omega | (simp; done) | (simp; omega)) _) | (refine Only.setCell ?_ (by first | exact .inl rfl | exact .inr (Nat.le_refl _) | exact .inr (by first | omega | (simp; omega))) _)))⟩
set_option maxRecDepth 100000 in
set_option maxHeartbeats 1600000 in
theorem part_leaf (e : List Nd) (f i : Nat) (x : Nd) (hx : e[i]? = some x) (hsh : shapedV x = true) (h5 : ¬ x.op = 5) (h6 : ¬ x.op = 6) (h7 : ¬ x.op = 7) : PartOk e (f + 1) i := by
 intro w rb A c hf hi hc hcm hok hblk hsl;have hrb := hblk.lt;have k0 : w.cell? ⟨rb, 0, none⟩ = some (.slice A e.length c) := hblk.cell 0;have k1 : w.cell? ⟨rb, 1, none⟩ = some (.int .i64 i) := hblk.cell 1;have z1 : w.frozen? ⟨rb, 1, none⟩ = false := hblk.frozen 1;have hil : i < e.length := (List.getElem?_eq_some_iff.1 hx).1;obtain ⟨b, o, rfl, hb, hcs⟩ := hsl.at_ hil;obtain ⟨d0, d1, d2, d3⟩ := hcs i x hx;obtain ⟨hxs, hxt⟩ := hok x (List.mem_of_getElem? hx);have hbw : b < w.heap.size := by omega
 have HX := Lib.hid hx;have HB := Lib.hid hblk;have HS := Lib.hid hsl;have HOK := Lib.hid hok;clear hx hblk hsl hcs hok;have HV : Hid (vGo e (f + 1) .one i = some (i + 1)) := by
  have hn := HX.out;show _ = _;simp [vGo, hn, hsh, h5, h6, h7]
 refine ⟨fun j hj => ?_, fun hj => ?_⟩
 · have hji : j = i + 1 := by rw [HV.out] at hj; injection hj with hj; exact hj.symm
   subst hji;clear hj;have p5 : (x.op == 5) = false := by simp [h5]
   have p6 : (x.op == 6) = false := by simp [h6]
   have p7 : (x.op == 7) = false := by simp [h7]
   go_enter Tryz.func96, Tryz.ntmps96
   go_wp2_with (go_at_call 129; refine (val_shaped x.op x.n x.s x.t _ hxs hxt).mono ?_; rintro r w1 ⟨rfl, hb1⟩; obtain ⟨hcc, hff⟩ := bcell hb1; have g1 : rb < w1.heap.size := Nat.lt_of_lt_of_le hrb hb1.size)
   go_quiet (fail)
   go_wp2
   go_ret
   have o1 := Only.of_below (g := rb) hb1 (Nat.le_refl _);have hz1 := hb1.size;have o2 : Only w.heap.size rb w (((w1.setCell ⟨rb, 1, none⟩ (.int .i64 ((i : Int) + 1))).alloc (.cells #[.int .i64 x.op, .int .i64 x.n, .string x.s, .string x.t] 37))) := by (repeat (first | assumption | exact Only.refl _ _ _ | apply Only.drew | apply Only.drewN | (refine Only.alloc ?_ (by first | exact Nat.le_refl _ | omega | (simp; done) | (simp; omega)) _) | (refine Only.setCell ?_ (by first | exact .inl rfl | exact .inr (Nat.le_refl _) | exact .inr (by first | omega | (simp; omega))) _)))
   refine ⟨some ⟨b, o + i * 4, none⟩, c - i, by rw [piece_len hil, show i + 1 - i = 1 from by omega]; rfl, ?_, ?_, ?_⟩
   · exact ((HS.out.piece i (i + 1)).only (o2.drewN _) (Nat.le_of_lt hrb))
   · exact ((rdr_step (HB.out.below hb1 hrb)).alloc _).drewN _
   · exact o2.drewN _
 · have hn := HV.out;rw [hj] at hn; cases hn
end Go.Proofs.YtpheiojmcafolaaGreatDoor
namespace Go.Proofs.YtpheiojmcafolaaGreatDoor
set_option maxRecDepth 100000
open Go.ChangeShapes Go.WideShapes Go.RowKit Go.Deep
section
variable {H : Type} {enc : TypeId × Value → H} {W : World}
theorem open_gen {α : Type} {en : α → List Value} {k : Nat} {data : α → DataW H} {Good : α → Prop} {t e : TypeId} (ht : Tryz.prog.underlying t = some (.slice e)) (ce : Tryz.prog.cellsOf e = k) (he : EncOk en k)
 (hel : ∀ n cs y, DataW.trod enc Tryz.prog W 0 (fun _ => true) true n e cs = some y → ∃ x, cs = en x ∧ y.1 = data x ∧ Good x) {fuel : Nat} {cs : List Value} {y : DataW H × List MemPlace}
 (hf : DataW.trod enc Tryz.prog W 0 (fun _ => true) true fuel t cs = some y) :
 ∃ (A : Option Addr) (xs : List α) (c : Nat), cs = [.slice A xs.length c] ∧ xs.length ≤ c ∧ c ≤ 9223372036854775807 ∧ SlG en k W W.heap.size A xs ∧ (∀ x ∈ xs, Good x) ∧ (xs = [] ∨ ∃ sp, y.1 = .slice (xs.map data) sp) := by
 rcases open_slice ht hf with ⟨hcs, _⟩ | ⟨a, len', cap', m, n, D, Pl, hcs, _, hl, hm, hmm, hx, hi⟩
 · exact ⟨none, [], 0, hcs, by simp, by omega, SlG.nil _ _ _, by simp, .inl rfl⟩
 · simp only [if_true] at hmm;subst hmm;have hel' : ∀ i, i < m → ∃ x : α, D i = data x ∧ Good x ∧ ∀ j u, (en x)[j]? = some u → W.cell? (a.add (i * k + j)) = some u := by
    intro i him;obtain ⟨cs', hc, ht'⟩ := hi i him;rw [ce] at hc;obtain ⟨x, rfl, hd, hg⟩ := hel _ _ _ ht';refine ⟨x, hd, hg, fun j u hu => ?_⟩;obtain ⟨_, _, hat⟩ := World.cells?_some hc;have hj : j < k := (by have := (List.getElem?_eq_some_iff.1 hu).1; rwa [he.len] at this);have := hat j hj;rw [add_add] at this;rw [this, hu]
   have hxs : ∀ r, r ≤ m → ∃ xs : List α, xs.length = r ∧ (List.range r).map D = xs.map data ∧ (∀ x ∈ xs, Good x) ∧ ∀ i x, xs[i]? = some x → ∀ j u, (en x)[j]? = some u → W.cell? (a.add (i * k + j)) = some u := by
    intro r;induction r with
    | zero => intro _; exact ⟨[], rfl, rfl, by simp, fun i x hx => by simp at hx⟩
    | succ r ih =>
     intro hk;obtain ⟨xs, h1, h2, h3, h4⟩ := ih (by omega);obtain ⟨x, hd, hg, hc⟩ := hel' r (by omega);refine ⟨xs ++ [x], by simp [h1], by rw [List.range_succ, List.map_append, List.map_append, h2]; simp [hd], fun z hz => ?_, fun i y hy => ?_⟩
     · rcases List.mem_append.1 hz with hz | hz
       · exact h3 z hz
       · rw [List.mem_singleton] at hz; subst hz; exact hg
     · rcases Nat.lt_or_ge i xs.length with hlt | hge
       · rw [List.getElem?_append_left hlt] at hy; exact h4 i y hy
       · have : i = xs.length := by
          have := (List.getElem?_eq_some_iff.1 hy).1;simp at this; omega
         subst this;simp at hy;subst hy;rw [h1]; exact hc
   obtain ⟨xs, h1, h2, h3, h4⟩ := hxs len' hl;subst h1;refine ⟨some a, xs, m, hcs, hl, by unfold maxLen at hm; omega, fun hne => ?_, h3, .inr ⟨_, by rw [hx, ← h2]⟩⟩;have h0 : 0 < xs.length := List.length_pos_iff.2 hne;have hen : 0 < (en xs[0]).length := by rw [he.len]; exact he.pos
   have hc0 := h4 0 xs[0] (List.getElem?_eq_getElem h0) 0 _ (List.getElem?_eq_getElem hen);have hsp : a.spot = none := by
    cases hs : a.spot with
    | none => rfl
    | some q =>
     simp [World.cell?, Addr.add, hs] at hc0;split at hc0 <;> simp at hc0
   obtain ⟨b, o, sp⟩ := a;simp only at hsp;subst hsp;simp only [add_none] at h4 hc0;refine ⟨b, o, rfl, World.block_lt_of_cell? W _ hc0, fun i x hx j u hu => ?_⟩;rw [Nat.add_assoc];exact h4 i x hx j u hu
theorem gen_weights {P : Program} {e : TypeId} {d : DataW H} {n : Nat} : ∀ {l : List (DataW H)}, d ∈ l → n ∈ d.weights P e → n ∈ DataW.weightsAll P e l
 | [], h, _ => by cases h
 | x :: l, h, hn => by
  simp only [DataW.weightsAll, List.mem_append];rcases List.mem_cons.1 h with rfl | h
  · exact .inl hn
  · exact .inr (gen_weights h hn)
theorem slice_weights {t e : TypeId} (ht : Tryz.prog.underlying t = some (.slice e)) {xs sp : List (DataW H)} {d : DataW H} {n : Nat} (hx : d ∈ xs) (hn : n ∈ d.weights Tryz.prog e) :
 n ∈ (DataW.slice xs sp).weights Tryz.prog t := by
 simp only [DataW.weights, ht, List.mem_cons, List.mem_append];exact .inr (.inl (gen_weights hx hn))
end
end Go.Proofs.YtpheiojmcafolaaGreatDoor
namespace Go.Proofs.YtpheiojmcafolaaGreatDoor
open Go.ChangeShapes Go.WideShapes Go.ChangeAt Go.RowKit Go.WideMaps
theorem Tryz.own : ownKnob Tryz.prog.godebug = none := by kernel_rfl
theorem Tryz.laidOut : laidOutB Tryz.prog = true := by kernel_rfl
end Go.Proofs.YtpheiojmcafolaaGreatDoor
namespace Go.Proofs.YtpheiojmcafolaaGreatDoor
set_option maxRecDepth 100000
open Go.ChangeShapes Go.WideShapes Go.RowKit Go.Deep
def ndData {H : Type} (x : Nd) : DataW H := .agg [.lit (.int .i64 x.op), .lit (.int .i64 x.n), .lit (.string x.s.data.toList), .lit (.string x.t.data.toList)]
theorem cells_node : Tryz.prog.cellsOf 37 = 4 := by kernel_rfl
section
variable {H : Type} {enc : TypeId × Value → H} {W : World}
theorem node_trod {base : Nat} {spare : Nat → Bool} {held : Bool} {n : Nat} {cs : List Value} {y : DataW H × List MemPlace} (h : DataW.trod enc Tryz.prog W base spare held n 37 cs = some y) :
 ∃ x : Nd, cs = x.cells ∧ y.1 = ndData x := by
 obtain ⟨xs, m, _, hy, hlen, hxl, hf⟩ := DataW.trod_struct Tryz.underlying37 h;rw [cells_node] at hlen;match cs, hlen with
 | [c0, c1, c2, c3], _ =>
  match xs, hxl with
  | [y0, y1, y2, y3], _ =>
   have e0 : DataW.trod enc Tryz.prog W base spare held m 3 (([c0, c1, c2, c3].drop 0).take (Tryz.prog.cellsOf 3)) = some y0 := hf 0 _ rfl;have e1 : DataW.trod enc Tryz.prog W base spare held m 3 (([c0, c1, c2, c3].drop 1).take (Tryz.prog.cellsOf 3)) = some y1 := hf 1 _ rfl;have e2 : DataW.trod enc Tryz.prog W base spare held m 9 (([c0, c1, c2, c3].drop 2).take (Tryz.prog.cellsOf 9)) = some y2 := hf 2 _ rfl;have e3 : DataW.trod enc Tryz.prog W base spare held m 9 (([c0, c1, c2, c3].drop 3).take (Tryz.prog.cellsOf 9)) = some y3 := hf 3 _ rfl;have k3 : Tryz.prog.cellsOf 3 = 1 := (by kernel_rfl);have k9 : Tryz.prog.cellsOf 9 = 1 := (by kernel_rfl);simp only [k3, k9, List.drop_zero, List.drop_succ_cons, List.take_succ_cons, List.take_zero] at e0 e1 e2 e3;obtain ⟨a0, q0, r0, _⟩ := DataW.trod_int Tryz.underlying3 e0;obtain ⟨a1, q1, r1, _⟩ := DataW.trod_int Tryz.underlying3 e1;obtain ⟨a2, q2, r2, _⟩ := DataW.trod_string Tryz.underlying9 e2;obtain ⟨a3, q3, r3, _⟩ := DataW.trod_string Tryz.underlying9 e3;simp only [List.cons.injEq, and_true] at q0 q1 q2 q3;subst q0 q1 q2 q3 r0 r1 r2 r3;exact ⟨⟨a0, a1, a2, a3⟩, rfl, by rw [hy]; rfl⟩
end
end Go.Proofs.YtpheiojmcafolaaGreatDoor
namespace Go.Proofs.YtpheiojmcafolaaGreatDoor
open Go.ChangeShapes Go.WideShapes Go.ChangeAt Go.RowKit Go.WideMaps
theorem nodes_rec : Tryz.prog.readableRec 22 = true := by kernel_rfl
theorem nodes_lt : 22 < Tryz.prog.types.size := of_decide_eq_true (by kernel_rfl)
end Go.Proofs.YtpheiojmcafolaaGreatDoor
namespace Go.Proofs.YtpheiojmcafolaaGreatDoor
open Go.RowKit
def headS (p : List Nd) : ByteArray := (p.head?.map Nd.s).getD ⟨#[]⟩
def kidsGo : Nat → List Nd → List (List Nd)
 | 0, _ => []
 | _ + 1, [] => []
 | k + 1, x :: l =>
  match skP (x :: l) 1 0 with
  | some j => (x :: l).take j :: kidsGo k ((x :: l).drop j)
  | none => []
def ExK : Bool → ByteArray → List (List Nd) → Prop
 | _, _, [] => True
 | r, l, p :: ps => Ex (.one r) p ∧ (r = true → sLate l (headS p) = false) ∧ ExK r (if r = true then headS p else l) ps
theorem ex_ne {b : Bool} {p : List Nd} (h : Ex (.one b) p) : ∃ x xs, p = x :: xs ∧ shapedT x = true ∧ (x.op == 7) = b := by
 cases h with
 | one n body fld hs h7 hb => exact ⟨n, body, rfl, hs, h7⟩
theorem ex_pieces {t : BTag} {xs : List Nd} (h : Ex t xs) : match t with
 | .one _ => True
 | .more c r l => ∃ ps : List (List Nd), ps.length = c ∧ xs = ps.flatten ∧ ExK r l ps := by
 induction h with
 | one n body fld hs h7 hb ih => trivial
 | nil r l => exact ⟨[], rfl, rfl, trivial⟩
 | cons c r l m xs ys hl hx hy ih1 ih2 =>
  obtain ⟨ps, h1, h2, h3⟩ := ih2;exact ⟨(m :: xs) :: ps, by simp [h1], by rw [List.flatten_cons, ← h2], hx, hl, h3⟩
theorem exk_more : ∀ (ps : List (List Nd)) (r : Bool) (l : ByteArray), ExK r l ps → Ex (.more ps.length r l) ps.flatten
 | [], r, l, _ => .nil r l
 | p :: ps, r, l, h => by
  obtain ⟨x, xs, rfl, _, _⟩ := ex_ne h.1;exact .cons _ r l x xs _ h.2.1 h.1 (exk_more ps r _ h.2.2)
theorem skP_one {b : Bool} {p : List Nd} (h : Ex (.one b) p) (rest : List Nd) : skP (p ++ rest) 1 0 = some p.length := by
 have hb := bGo_of_ex h [] rest (2 * p.length) (by simp);simp only [List.nil_append, List.length_nil, Nat.zero_add] at hb;have := skP_bGo (p ++ rest) _ _ _ _ hb 0 (Int.le_refl _);simp only [List.drop_zero, Int.add_zero] at this;rw [this, skP_done]
theorem kids_flat : ∀ (ps : List (List Nd)) (r : Bool) (l : ByteArray), ExK r l ps → ∀ k, ps.flatten.length ≤ k → kidsGo k ps.flatten = ps
 | [], r, l, _, k, _ => by cases k <;> rfl
 | p :: ps, r, l, h, k, hk => by
  obtain ⟨x, xs, rfl, _, _⟩ := ex_ne h.1;rw [List.flatten_cons, List.length_append, List.length_cons] at hk;match k, hk with
  | 0, hk => omega
  | k + 1, hk =>
   have hs := skP_one h.1 ps.flatten;rw [List.flatten_cons];rw [List.cons_append] at hs ⊢;rw [kidsGo, hs];simp only;rw [← List.cons_append, List.take_left, List.drop_left, kids_flat ps r _ h.2.2 k (by omega)]
theorem exk_all : ∀ {ps : List (List Nd)} {r : Bool} {l : ByteArray}, ExK r l ps → ∀ p ∈ ps, Ex (.one r) p
 | p :: ps, r, l, h, q, hq => by
  rcases List.mem_cons.1 hq with rfl | hq
  · exact h.1
  · exact exk_all h.2.2 q hq
theorem exk_false : ∀ {ps : List (List Nd)} {l : ByteArray}, (∀ p ∈ ps, Ex (.one false) p) → ExK false l ps
 | [], _, _ => trivial
 | p :: ps, l, h => ⟨h p (by simp), by simp, exk_false fun q hq => h q (by simp [hq])⟩
theorem late_lt (l s : ByteArray) : sLate l s = false ↔ l.toList < s.toList := by
 unfold sLate;rw [bytesLess_eq];constructor
 · intro h;simp only [Bool.or_eq_false_iff, decide_eq_false_iff_not, beq_eq_false_iff_ne] at h;by_cases h1 : l.toList < s.toList
   · exact h1
   · rcases le_cases (List.not_lt.1 h1) with h2 | h2
     · exact absurd h2 h.1
     · exact absurd h2 h.2
 · intro h;simp only [Bool.or_eq_false_iff, decide_eq_false_iff_not, beq_eq_false_iff_ne];exact ⟨List.lt_asymm h, fun e => List.lt_irrefl _ (e ▸ h)⟩
def namesOf (ps : List (List Nd)) : List (List UInt8) := ps.map fun p => (headS p).toList
theorem exk_pw : ∀ {ps : List (List Nd)} {l : ByteArray}, ExK true l ps → (namesOf ps).Pairwise (· < ·) ∧ ∀ s ∈ namesOf ps, l.toList < s
 | [], l, _ => ⟨List.Pairwise.nil, by simp [namesOf]⟩
 | p :: ps, l, h => by
  have h2 := (late_lt _ _).1 (h.2.1 rfl);have ih := exk_pw (l := headS p) (by simpa using h.2.2);refine ⟨List.Pairwise.cons ih.2 ih.1, ?_⟩;intro s hs;rcases List.mem_cons.1 hs with rfl | hs
  · exact h2
  · exact List.lt_trans h2 (ih.2 s hs)
theorem exk_of_pw : ∀ {ps : List (List Nd)} {l : ByteArray}, (∀ p ∈ ps, Ex (.one true) p) → (namesOf ps).Pairwise (· < ·) → (∀ s ∈ namesOf ps, l.toList < s) → ExK true l ps
 | [], _, _, _, _ => trivial
 | p :: ps, l, h, hp, hl => by
  have hp' := List.pairwise_cons.1 hp;exact ⟨h p (by simp), fun _ => (late_lt _ _).2 (hl _ (by simp [namesOf])), exk_of_pw (fun q hq => h q (by simp [hq])) hp'.2 hp'.1⟩
def sortN (ps : List (List Nd)) : List (List Nd) := ps.mergeSort fun a b => decide ((headS a).toList ≤ (headS b).toList)
theorem sortN_perm (ps : List (List Nd)) : (sortN ps).Perm ps := List.mergeSort_perm _ _
theorem sortN_pw {ps : List (List Nd)} (h : (namesOf ps).Nodup) : (namesOf (sortN ps)).Pairwise (· < ·) := by
 have h1 : (sortN ps).Pairwise fun a b => decide ((headS a).toList ≤ (headS b).toList) = true := List.pairwise_mergeSort
  (by intro a b c h1 h2; simp only [decide_eq_true_eq] at h1 h2 ⊢; exact List.le_trans h1 h2)
  (by intro a b; simp only [Bool.or_eq_true, decide_eq_true_eq]; exact List.le_total _ _) _
 have h2 : (namesOf (sortN ps)).Nodup := ((sortN_perm ps).map _).nodup_iff.2 h;unfold namesOf at h2 ⊢;rw [List.pairwise_map];rw [List.Nodup, List.pairwise_map] at h2;refine (h1.and h2).imp ?_;rintro a b ⟨h3, h4⟩;simp only [decide_eq_true_eq] at h3;rcases le_cases h3 with h | h
 · exact h
 · exact absurd h h4
theorem rise_eq : ∀ {ps qs : List (List Nd)}, (namesOf ps).Pairwise (· < ·) → (namesOf qs).Pairwise (· < ·) → ps.Perm qs → ps = qs
 | [], qs, _, _, h => (List.Perm.nil_eq h)
 | p :: ps, [], _, _, h => absurd h.symm (fun h => by have := List.Perm.nil_eq h; cases this)
 | p :: ps, q :: qs, hp, hq, h => by
  have hp' := List.pairwise_cons.1 hp;have hq' := List.pairwise_cons.1 hq;have e : p = q := by
   rcases List.mem_cons.1 (h.mem_iff.1 (List.mem_cons_self)) with e | h1
   · exact e
   · rcases List.mem_cons.1 (h.mem_iff.2 (List.mem_cons_self (a := q))) with e | h2
     · exact e.symm
     · have a1 := hp'.1 _ (List.mem_map_of_mem (f := fun p => (headS p).toList) h2);have a2 := hq'.1 _ (List.mem_map_of_mem (f := fun p => (headS p).toList) h1);exact absurd (List.lt_trans a1 a2) (List.lt_irrefl _)
  subst e;rw [rise_eq hp'.2 hq'.2 (List.Perm.cons_inv h)]
theorem sortN_eq {ps qs : List (List Nd)} (h : ps.Perm qs) (hn : (namesOf ps).Nodup) : sortN ps = sortN qs :=
 rise_eq (sortN_pw hn) (sortN_pw ((h.map _).nodup_iff.1 hn)) ((sortN_perm ps).trans (h.trans (sortN_perm qs).symm))
structure Mv where
 what : Int
 fr : ByteArray
 to_ : ByteArray
def mvErr (m : Mv) : Int := if m.what ≠ 1 ∧ m.what ≠ 2 then 1 else if nameErr m.fr.toList ≠ 0 then nameErr m.fr.toList else nameErr m.to_.toList
def looksB (m : Mv) (x : Nd) : Bool := if x.op = 7 ∨ x.op = 21 ∨ x.op = 22 then m.what == 1 else if x.op = 4 ∨ x.op = 24 then m.what == 2 else false
def ren (m : Mv) (x : Nd) : Nd := if looksB m x = true ∧ x.s.toList = m.fr.toList then ⟨x.op, x.n, m.to_, x.t⟩ else x
theorem ren_op (m : Mv) (x : Nd) : (ren m x).op = x.op ∧ (ren m x).n = x.n ∧ (ren m x).t = x.t := by unfold ren; split <;> exact ⟨rfl, rfl, rfl⟩
theorem looks_ren (m n : Mv) (x : Nd) : looksB n (ren m x) = looksB n x := by unfold looksB; rw [(ren_op m x).1]
theorem ren_s (m : Mv) (x : Nd) : (ren m x).s = if looksB m x = true ∧ x.s.toList = m.fr.toList then m.to_ else x.s := by unfold ren; split <;> rfl
theorem mv_ok {m : Mv} (h : mvErr m = 0) : (m.what = 1 ∨ m.what = 2) ∧ nameErr m.fr.toList = 0 ∧ nameErr m.to_.toList = 0 := by
 unfold mvErr at h;split at h
 · cases h
 · rename_i h1;split at h
   · rename_i h2; exact absurd h h2
   · rename_i h2;exact ⟨by omega, by simpa using h2, h⟩
theorem val_ent {x : Nd} (h : x.op = 4) : (valErr [x] == 0) = shapedV x := by
 unfold valErr;rw [if_neg (by simp)];cases hs : shapedV x
 · simp [vGo, hs]
 · simp [vGo, hs, h]
theorem ren_parts (m : Mv) (x : Nd) : ndParts (ren m x) = ndParts x := by unfold ndParts; rw [(ren_op m x).1, (ren_op m x).2.1]
theorem ren_shaped {m : Mv} (hm : mvErr m = 0) {x : Nd} (h : shapedT x = true) : shapedT (ren m x) = true := by
 unfold ren;split
 · rename_i hc;have hl := hc.1;have ht := (mv_ok hm).2.2;unfold looksB at hl;split at hl
   · rename_i ho;unfold shapedT at h ⊢;have e1 : ¬ (x.op = 1 ∨ x.op = 2 ∨ x.op = 3 ∨ x.op = 4) := (by omega);have e2 : ¬ (x.op = 5 ∨ x.op = 6) := (by omega);have e3 : ¬ x.op = 8 := (by omega);have e4 : x.op = 7 ∨ x.op = 21 ∨ x.op = 22 ∨ x.op = 24 := (by omega);rw [if_neg e1, if_neg e2, if_neg e3, if_pos e4] at h ⊢;simp only [Bool.and_eq_true] at h ⊢;exact ⟨h.1, by rw [ht]; rfl⟩
   · split at hl
     · rename_i ho;rcases ho with ho | ho
       · unfold shapedT at h ⊢;have e1 : x.op = 1 ∨ x.op = 2 ∨ x.op = 3 ∨ x.op = 4 := (by omega);rw [if_pos e1] at h ⊢;rw [val_ent ho] at h;rw [val_ent (by exact ho)];unfold shapedV at h ⊢;simp only [ho] at h ⊢;simp at h ⊢;exact ⟨⟨h.1.1, ht⟩, h.2⟩
       · unfold shapedT at h ⊢;have e1 : ¬ (x.op = 1 ∨ x.op = 2 ∨ x.op = 3 ∨ x.op = 4) := (by omega);have e2 : ¬ (x.op = 5 ∨ x.op = 6) := (by omega);have e3 : ¬ x.op = 8 := (by omega);have e4 : x.op = 7 ∨ x.op = 21 ∨ x.op = 22 ∨ x.op = 24 := (by omega);rw [if_neg e1, if_neg e2, if_neg e3, if_pos e4] at h ⊢;simp only [Bool.and_eq_true] at h ⊢;exact ⟨h.1, by rw [ht]; rfl⟩
     · cases hl
 · exact h
def freshB (m : Mv) (e : List Nd) : Bool := !e.any fun x => looksB m x && x.s.toList == m.to_.toList
theorem fresh_iff {m : Mv} {e : List Nd} : freshB m e = true ↔ ∀ x ∈ e, looksB m x = true → x.s.toList ≠ m.to_.toList := by
 unfold freshB;simp [List.any_eq_false]
def allSome {α : Type} : List (Option α) → Option (List α)
 | [] => some []
 | none :: _ => none
 | some a :: r => match allSome r with | none => none | some l => some (a :: l)
theorem allSome_map {α : Type} : ∀ (l : List α), allSome (l.map some) = some l
 | [] => rfl
 | a :: r => by rw [List.map_cons, allSome, allSome_map r]
def ndsLe (a b : List Nd) : Bool := decide (ndsCmp a b ≤ 0)
def dedupA : List Nd → List (List Nd) → List (List Nd)
 | _, [] => []
 | a, b :: r => if ndsCmp a b = 0 then dedupA a r else b :: dedupA b r
def dedupP : List (List Nd) → List (List Nd)
 | [] => []
 | a :: r => a :: dedupA a r
def setParts (ps : List (List Nd)) : List (List Nd) := dedupP (ps.mergeSort ndsLe)
def setNodes (ps : List (List Nd)) : List Nd := ⟨5, (setParts ps).length, ⟨#[]⟩, ⟨#[]⟩⟩ :: (setParts ps).flatten
def valsErr : List (List Nd) → Int
 | [] => 0
 | v :: r => if valErr v ≠ 0 then valErr v else valsErr r
def setOfP (ps : List (List Nd)) : List Nd × Int := if valsErr ps ≠ 0 then ([], valsErr ps) else if 200 < (setNodes ps).length then ([], 4) else (setNodes ps, 0)
def movGo (m : Mv) (vals : Bool) : Nat → List Nd → Option (List Nd)
 | 0, _ => none
 | _ + 1, [] => none
 | k + 1, x :: body =>
  match allSome ((kidsGo body.length body).map (movGo m vals k)) with
  | none => none
  | some ps => if x.op = 6 then (if (namesOf ps).Nodup then some (ren m x :: (sortN ps).flatten) else none)
   else if x.op = 5 ∧ vals = true then some (setOfP ps).1 else some (ren m x :: ps.flatten)
theorem movGo_step (m : Mv) (vals : Bool) (k : Nat) (x : Nd) {r : Bool} {l : ByteArray} {ps : List (List Nd)} (h : ExK r l ps) : movGo m vals (k + 1) (x :: ps.flatten) =
 match allSome (ps.map (movGo m vals k)) with
 | none => none
 | some qs => if x.op = 6 then (if (namesOf qs).Nodup then some (ren m x :: (sortN qs).flatten) else none)
  else if x.op = 5 ∧ vals = true then some (setOfP qs).1 else some (ren m x :: qs.flatten) := by
 rw [movGo, kids_flat ps r l h _ (Nat.le_refl _)]
theorem headS_cons (x : Nd) (l : List Nd) : headS (x :: l) = x.s := rfl
theorem ren_nodup {m : Mv} {ps qs : List (List Nd)} (h1 : qs.map List.head? = ps.map fun p => p.head?.map (ren m)) (hp : ∀ p ∈ ps, ∃ x xs, p = x :: xs ∧ x.op = 7) (hf : ∀ p ∈ ps, ∀ x ∈ p, looksB m x = true → x.s.toList ≠ m.to_.toList)
 (hn : (namesOf ps).Nodup) : (namesOf qs).Nodup := by
 have e : namesOf qs = ps.map fun p => if m.what = 1 ∧ (headS p).toList = m.fr.toList then m.to_.toList else (headS p).toList := by
  have e1 : namesOf qs = (qs.map List.head?).map fun h => ((h.map Nd.s).getD ⟨#[]⟩).toList := by unfold namesOf headS; rw [List.map_map]; rfl
  rw [e1, h1, List.map_map];refine List.map_congr_left fun p hp' => ?_;obtain ⟨x, xs, rfl, h7⟩ := hp p hp';show (ren m x).s.toList = _;rw [ren_s, headS_cons];have hl : looksB m x = (m.what == 1) := by unfold looksB; rw [if_pos (.inl h7)]
  rw [hl];by_cases hw : m.what = 1
  · by_cases hs : x.s.toList = m.fr.toList
    · rw [if_pos ⟨by simp [hw], hs⟩, if_pos ⟨hw, hs⟩]
    · rw [if_neg (fun h => hs h.2), if_neg (fun h => hs h.2)]
  · rw [if_neg (by simp [hw]), if_neg (fun h => hw h.1)]
 rw [e];unfold namesOf at hn;rw [List.Nodup, List.pairwise_map] at hn ⊢;refine List.Pairwise.imp_of_mem ?_ hn;intro a b ha hb hab;have hto : ∀ p ∈ ps, m.what = 1 → (headS p).toList ≠ m.to_.toList := by
  intro p hp' hw;obtain ⟨x, xs, rfl, h7⟩ := hp p hp';exact hf _ hp' x (by simp) (by unfold looksB; rw [if_pos (.inl h7)]; simp [hw])
 split
 · rename_i h3;split
   · rename_i h4; exact absurd (h3.2.trans h4.2.symm) hab
   · exact fun e => hto b hb h3.1 e.symm
 · split
   · rename_i h4; exact hto a ha h4.1
   · exact hab
theorem nm_ne {s : List UInt8} (h : nameErr s = 0) : ([] : List UInt8) < s := by
 cases s with
 | nil => simp [nameErr] at h
 | cons a l => exact List.nil_lt_cons a l
theorem fld_name {x : Nd} (h : shapedT x = true) (h7 : x.op = 7) : nameErr x.s.toList = 0 := by
 unfold shapedT at h;rw [if_neg (by omega), if_neg (by omega), if_neg (by omega), if_pos (by omega)] at h;simp only [Bool.and_eq_true, beq_iff_eq] at h;exact h.2
theorem mov_ex {m : Mv} (hm : mvErr m = 0) {t : BTag} {xs : List Nd} (h : Ex t xs) (hf : ∀ x ∈ xs, looksB m x = true → x.s.toList ≠ m.to_.toList) :
 match t with
 | .one fld => ∀ k, xs.length ≤ k → ∃ ys, movGo m false k xs = some ys ∧ Ex (.one fld) ys ∧ ys.head? = xs.head?.map (ren m) ∧ ys.Perm (xs.map (ren m))
 | .more c r l => ∃ ps : List (List Nd), ps.length = c ∧ xs = ps.flatten ∧ ExK r l ps ∧ ∀ k, xs.length ≤ k → ∃ qs, allSome (ps.map (movGo m false k)) = some qs ∧ qs.length = c ∧ (∀ q ∈ qs, Ex (.one r) q) ∧
  (qs.map List.head? = ps.map fun p => p.head?.map (ren m)) ∧ qs.flatten.Perm (xs.map (ren m)) := by
 induction h with
 | one n body fld hs h7 hb ih =>
  obtain ⟨ps, hc, rfl, hk, hq⟩ := ih (fun x hx => hf x (by simp [hx]));intro k hk';match k, hk' with
  | k + 1, hk' =>
   obtain ⟨qs, h1, h2, h3, h4, h5⟩ := hq k (by simpa using hk');rw [movGo_step m false k n hk, h1];simp only;have hop := ren_op m n;by_cases h6 : n.op = 6
   · rw [h6] at hk h3;have hk6 : ExK true ⟨#[]⟩ ps := hk;have h36 : ∀ q ∈ qs, Ex (.one true) q := h3;have hpw := exk_pw hk6;have hpf : ∀ p ∈ ps, ∃ x xs, p = x :: xs ∧ x.op = 7 := fun p hp => by
      obtain ⟨x, xs, e, _, h⟩ := ex_ne (exk_all hk6 p hp);exact ⟨x, xs, e, by simpa using h⟩
     have hnd : (namesOf qs).Nodup := ren_nodup h4 hpf (fun p hp x hx => hf x (by simp; exact .inr ⟨p, hp, hx⟩)) (hpw.1.imp fun h e => by rw [e] at h; exact List.lt_irrefl _ h);rw [if_pos h6, if_pos hnd];have hex : ExK true ⟨#[]⟩ (sortN qs) := by
      refine exk_of_pw (fun q hq => h36 q ((sortN_perm qs).mem_iff.1 hq)) (sortN_pw hnd) ?_;intro s hs';obtain ⟨q, hq, rfl⟩ := List.mem_map.1 hs';obtain ⟨x, xs, rfl, hsx, hx7⟩ := ex_ne (h36 q ((sortN_perm qs).mem_iff.1 hq));rw [show (⟨#[]⟩ : ByteArray).toList = [] from by rw [ByteArray.toList_eq]];exact nm_ne (fld_name hsx (by simpa using hx7))
     have hlen : (sortN qs).length = ps.length := (by rw [(sortN_perm qs).length_eq, h2, hc]);refine ⟨_, rfl, .one _ _ fld (ren_shaped hm hs) (by rw [hop.1]; exact h7) ?_, rfl, ?_⟩
     · have := exk_more _ _ _ hex;rw [ren_parts, hop.1, ← hc, ← hlen, h6]; exact this
     · rw [List.map_cons];exact List.Perm.cons _ ((List.Perm.flatten (sortN_perm qs)).trans h5)
   · rw [if_neg h6, if_neg (by simp)];have e6 : (n.op == 6) = false := (by simpa using h6);rw [e6] at hk h3;have hex : ExK false ⟨#[]⟩ qs := exk_false h3;refine ⟨_, rfl, .one _ _ fld (ren_shaped hm hs) (by rw [hop.1]; exact h7) ?_, rfl, ?_⟩
     · have := exk_more _ _ _ hex;rw [ren_parts, hop.1, e6, ← h2]; exact this
     · rw [List.map_cons];exact List.Perm.cons _ h5
 | nil r l => exact ⟨[], rfl, rfl, trivial, fun k _ => ⟨[], rfl, rfl, by simp, rfl, by simp⟩⟩
 | cons c r l x xs ys hl hx hy ih1 ih2 =>
  have ih1' := ih1 (fun y hy' => hf y (by simp at hy' ⊢; rcases hy' with h | h; exact .inl h; exact .inr (.inl h)));obtain ⟨ps, h1, h2, h3, h4⟩ := ih2 (fun y hy' => hf y (by simp; exact .inr (.inr hy')));refine ⟨(x :: xs) :: ps, by simp [h1], by rw [List.flatten_cons, ← h2], ⟨hx, hl, h3⟩, ?_⟩;intro k hk;rw [List.length_append] at hk;obtain ⟨zs, a1, a2, a3, a4⟩ := ih1' k (by omega);obtain ⟨qs, b1, b2, b3, b4, b5⟩ := h4 k (by omega);refine ⟨zs :: qs, by rw [List.map_cons, a1, allSome, b1], by simp [b2], ?_, by rw [List.map_cons, List.map_cons, a3, b4], ?_⟩
  · intro q hq;rcases List.mem_cons.1 hq with rfl | hq
    · exact a2
    · exact b3 q hq
  · rw [List.flatten_cons, List.map_append];exact a4.append b5
def movE (m : Mv) (e : List Nd) : Option (List Nd) := movGo m false e.length e
end Go.Proofs.YtpheiojmcafolaaGreatDoor
namespace Go.Proofs.YtpheiojmcafolaaGreatDoor
open Go.RowKit
theorem kids_any : ∀ (ps : List (List Nd)), (∀ p ∈ ps, ∃ b, Ex (.one b) p) → ∀ k, ps.flatten.length ≤ k → kidsGo k ps.flatten = ps
 | [], _, k, _ => by cases k <;> rfl
 | p :: ps, h, k, hk => by
  obtain ⟨b, hb⟩ := h p (by simp);obtain ⟨x, xs, rfl, _, _⟩ := ex_ne hb;rw [List.flatten_cons, List.length_append, List.length_cons] at hk;match k, hk with
  | 0, hk => omega
  | k + 1, hk =>
   have hs := skP_one hb ps.flatten;rw [List.flatten_cons];rw [List.cons_append] at hs ⊢;rw [kidsGo, hs];simp only;rw [← List.cons_append, List.take_left, List.drop_left, kids_any ps (fun q hq => h q (by simp [hq])) k (by omega)]
theorem movGo_any (m : Mv) (vals : Bool) (k : Nat) (x : Nd) {ps : List (List Nd)} (h : ∀ p ∈ ps, ∃ b, Ex (.one b) p) : movGo m vals (k + 1) (x :: ps.flatten) =
 match allSome (ps.map (movGo m vals k)) with
 | none => none
 | some qs => if x.op = 6 then (if (namesOf qs).Nodup then some (ren m x :: (sortN qs).flatten) else none)
  else if x.op = 5 ∧ vals = true then some (setOfP qs).1 else some (ren m x :: qs.flatten) := by
 rw [movGo, kids_any ps h _ (Nat.le_refl _)];try rfl
theorem allSome_of {α β : Type} [Inhabited β] (f : α → Option β) : ∀ (ps : List α), (∀ p ∈ ps, ∃ y, f p = some y) → allSome (ps.map f) = some (ps.map fun p => (f p).getD default)
 | [], _ => rfl
 | p :: ps, h => by
  obtain ⟨y, hy⟩ := h p (by simp);rw [List.map_cons, hy, allSome, allSome_of f ps (fun q hq => h q (by simp [hq])), List.map_cons, hy]; rfl
end Go.Proofs.YtpheiojmcafolaaGreatDoor
namespace Go.Proofs.YtpheiojmcafolaaGreatDoor
open Go.RowKit Go.Sort
theorem skP_at {b : Bool} {p : List Nd} (h : Ex (.one b) p) (rest : List Nd) (i : Nat) : skP (p ++ rest) 1 i = some (i + p.length) := by
 have hb := bGo_of_ex h (List.replicate i ⟨0, 0, ⟨#[]⟩, ⟨#[]⟩⟩) rest (2 * p.length) (by simp);have := skP_bGo _ _ _ _ _ hb 0 (Int.le_refl _);rw [List.append_assoc, List.drop_left, List.length_replicate] at this;simp only [Int.add_zero] at this;rw [this, skP_done]
theorem swo_names {α : Type} (nm : α → List UInt8) : SWO (ltOf fun x y : α => Lib.compareBytes (nm x) (nm y)) := by
 have hd : ∀ x y : α, ltOf (fun x y : α => Lib.compareBytes (nm x) (nm y)) x y = decide (nm x < nm y) := fun x y => by
  unfold ltOf;simp only [cmp_neg]
 refine ⟨fun x => ?_, fun x y z h1 h2 => ?_, fun x y z h1 h2 => ?_⟩
 · rw [hd]; simp [List.lt_irrefl]
 · rw [hd] at h1 h2 ⊢;simp only [decide_eq_true_eq] at h1 h2 ⊢;exact List.lt_trans h1 h2
 · rw [hd] at h1 h2 ⊢;simp only [decide_eq_false_iff_not, List.not_lt] at h1 h2 ⊢;exact List.le_trans h2 h1
def RiseN (ds : List (List Nd)) : Prop := ∀ (i j : Nat) (a b : List Nd), ds[i]? = some a → ds[j]? = some b → i < j → ¬ (headS b).toList < (headS a).toList
theorem rise_pw {ds : List (List Nd)} (hs : RiseN ds) (ha : ∀ (j : Nat) (a b : List Nd), ds[j]? = some a → ds[j + 1]? = some b → (headS b).toList ≠ (headS a).toList) : (namesOf ds).Pairwise (· < ·) := by
 rw [List.pairwise_iff_getElem];intro i j hi hj hij;unfold namesOf at hi hj ⊢;rw [List.length_map] at hi hj;rw [List.getElem_map, List.getElem_map];obtain ⟨k, rfl⟩ : ∃ k, j = k + 1 := ⟨j - 1, by omega⟩;have e1 : ds[k]? = some ds[k] := List.getElem?_eq_getElem (by omega);have e2 : ds[k + 1]? = some ds[k + 1] := List.getElem?_eq_getElem hj;have h1 := List.not_lt.1 (hs k (k + 1) _ _ e1 e2 (by omega));have h2 : (headS ds[k]).toList < (headS ds[k + 1]).toList := by
  rcases le_cases h1 with h | h
  · exact h
  · exact absurd h.symm (ha k _ _ e1 e2)
 rcases Nat.lt_or_ge i k with h | h
 · have e3 : ds[i]? = some ds[i] := List.getElem?_eq_getElem hi;rcases le_cases (List.not_lt.1 (hs i k _ _ e3 e1 h)) with h3 | h3
   · exact List.lt_trans h3 h2
   · rw [h3]; exact h2
 · obtain rfl : i = k := by omega
   exact h2
theorem pw_nodup {ds : List (List Nd)} (h : (namesOf ds).Pairwise (· < ·)) : (namesOf ds).Nodup := h.imp fun h e => by rw [e] at h; exact List.lt_irrefl _ h
theorem rise_done {ds qs : List (List Nd)} (hp : ds.Perm qs) (hs : RiseN ds) (ha : ∀ (j : Nat) (a b : List Nd), ds[j]? = some a → ds[j + 1]? = some b → (headS b).toList ≠ (headS a).toList) : (namesOf qs).Nodup ∧ ds = sortN qs := by
 have h1 := rise_pw hs ha;have h2 : (namesOf qs).Nodup := (hp.map _).nodup_iff.1 (pw_nodup h1);exact ⟨h2, rise_eq h1 (sortN_pw h2) (hp.trans (sortN_perm qs).symm)⟩
theorem rise_twice {ds qs : List (List Nd)} (hp : ds.Perm qs) {j : Nat} {a b : List Nd} (h1 : ds[j]? = some a) (h2 : ds[j + 1]? = some b) (he : (headS b).toList = (headS a).toList) : ¬ (namesOf qs).Nodup := by
 intro h;have h' : (namesOf ds).Nodup := (hp.map _).nodup_iff.2 h;unfold namesOf at h';rw [List.Nodup, List.pairwise_iff_getElem] at h';obtain ⟨k1, e1⟩ := List.getElem?_eq_some_iff.1 h1;obtain ⟨k2, e2⟩ := List.getElem?_eq_some_iff.1 h2;refine h' j (j + 1) (by simpa using k1) (by simpa using k2) (by omega) ?_;rw [List.getElem_map, List.getElem_map, e1, e2, he]
end Go.Proofs.YtpheiojmcafolaaGreatDoor
namespace Go.Proofs.YtpheiojmcafolaaGreatDoor
open Go.RowKit Go.Sort
structure Cm {α : Type} (c : α → α → Int) : Prop where
 self : ∀ x, c x x = 0
 eq : ∀ x y, c x y = 0 → x = y
 flip : ∀ x y, 0 < c x y ↔ c y x < 0
 trans : ∀ x y z, c x y < 0 → c y z < 0 → c x z < 0
theorem cm_int : Cm cmpI := by
 refine ⟨fun x => ?_, fun x y h => ?_, fun x y => ?_, fun x y z h1 h2 => ?_⟩
 · simp [cmpI]
 · simp only [cmpI] at h; (repeat' split at h) <;> omega
 · simp only [cmpI]; (repeat' split) <;> omega
 · simp only [cmpI] at h1 h2 ⊢; (repeat' split at h1) <;> (repeat' split at h2) <;> (repeat' split) <;> omega
theorem cm_list : Cm Lib.compareBytes := by
 have hs : ∀ x, Lib.compareBytes x x = 0 := fun x => by
  have h1 : ¬ Lib.compareBytes x x < 0 := fun h => List.lt_irrefl _ ((cmp_neg _ _).1 h);have h2 : ¬ 0 < Lib.compareBytes x x := fun h => List.lt_irrefl _ ((cmp_pos _ _).1 h);omega
 refine ⟨hs, fun x y h => ?_, fun x y => by rw [cmp_pos, cmp_neg], fun x y z h1 h2 => ?_⟩
 · have h1 : ¬ x < y := fun hh => by have := (cmp_neg x y).2 hh; omega
   have h2 : ¬ y < x := fun hh => by have := (cmp_pos x y).2 hh; omega
   rcases le_cases (List.not_lt.1 h2) with h3 | h3
   · exact absurd h3 h1
   · exact h3
 · rw [cmp_neg] at h1 h2 ⊢; exact List.lt_trans h1 h2
theorem Cm.inj {α β : Type} {c : β → β → Int} (h : Cm c) (f : α → β) (hf : ∀ x y, f x = f y → x = y) : Cm fun x y => c (f x) (f y) :=
 ⟨fun _ => h.self _, fun _ _ e => hf _ _ (h.eq _ _ e), fun _ _ => h.flip _ _, fun _ _ _ => h.trans _ _ _⟩
theorem Cm.lex {α β : Type} {c : α → α → Int} {d : β → β → Int} (hc : Cm c) (hd : Cm d) : Cm fun x y : α × β => if c x.1 y.1 = 0 then d x.2 y.2 else c x.1 y.1 := by
 have hz : ∀ x y, c x y = 0 → c y x = 0 := fun x y h => by rw [hc.eq x y h, hc.self]
 refine ⟨fun x => by simp [hc.self, hd.self], fun x y h => ?_, fun x y => ?_, fun x y z h1 h2 => ?_⟩
 · by_cases h0 : c x.1 y.1 = 0
   · simp only [h0, if_true] at h;exact Prod.ext (hc.eq _ _ h0) (hd.eq _ _ h)
   · simp only [h0, if_false] at h
 · by_cases h0 : c x.1 y.1 = 0
   · have h1 := hz _ _ h0;simp only [h0, h1, if_true];exact hd.flip _ _
   · have h1 : ¬ c y.1 x.1 = 0 := fun h => h0 (hz _ _ h);simp only [h0, h1, if_false];exact hc.flip _ _
 · by_cases h0 : c x.1 y.1 = 0
   · simp only [h0, if_true] at h1;have e := hc.eq _ _ h0;rw [e];by_cases h3 : c y.1 z.1 = 0
     · simp only [h3, if_true] at h2 ⊢;exact hd.trans _ _ _ h1 h2
     · simp only [h3, if_false] at h2 ⊢;exact h2
   · simp only [h0, if_false] at h1;by_cases h3 : c y.1 z.1 = 0
     · have e := hc.eq _ _ h3;rw [← e];simp only [h0, if_false];exact h1
     · simp only [h3, if_false] at h2;have h4 := hc.trans _ _ _ h1 h2;have h5 : ¬ c x.1 z.1 = 0 := (by omega);simp only [h5, if_false];exact h4
theorem bytes_ext {x y : ByteArray} (h : x.data.toList = y.data.toList) : x = y := by
 cases x; cases y; simp at h; rw [h]
theorem cm_nd : Cm ndCmp := by
 have h : ndCmp = fun x y : Nd => if cmpI x.op y.op = 0 then (if cmpI x.n y.n = 0 then (if Lib.compareBytes x.s.data.toList y.s.data.toList = 0 then Lib.compareBytes x.t.data.toList y.t.data.toList else Lib.compareBytes x.s.data.toList y.s.data.toList) else cmpI x.n y.n) else cmpI x.op y.op := by
  funext x y
  unfold ndCmp;simp only [orI];split
  · split
    · split
      · split
        · rename_i h; exact h.symm
        · rfl
      · rfl
    · rfl
  · rfl
 rw [h];have hb : Cm fun x y : ByteArray => Lib.compareBytes x.data.toList y.data.toList := cm_list.inj (fun x : ByteArray => x.data.toList) fun _ _ => bytes_ext;exact (cm_int.lex (cm_int.lex (hb.lex hb))).inj (fun x : Nd => (x.op, x.n, x.s, x.t)) fun x y h => by
  cases x; cases y; simp at h; simp [h]
theorem cm_nds : Cm ndsCmp := by
 have hn := cm_nd;have hz : ∀ x y, ndCmp x y = 0 → ndCmp y x = 0 := fun x y h => by rw [hn.eq x y h, hn.self]
 refine ⟨fun x => ?_, fun x => ?_, fun x => ?_, fun x => ?_⟩
 · induction x with
   | nil => rfl
   | cons a r ih => simp [ndsCmp, hn.self, ih]
 · induction x with
   | nil => intro y h; cases y with
    | nil => rfl
    | cons b s => simp [ndsCmp] at h
   | cons a r ih =>
    intro y h;cases y with
    | nil => simp [ndsCmp] at h
    | cons b s =>
     rw [ndsCmp] at h;split at h
     · rename_i h0; rw [hn.eq _ _ h0, ih s h]
     · rename_i h0; exact absurd h h0
 · induction x with
   | nil => intro y; cases y with
    | nil => simp [ndsCmp]
    | cons b s => simp [ndsCmp]
   | cons a r ih =>
    intro y;cases y with
    | nil => simp [ndsCmp]
    | cons b s =>
     rw [ndsCmp, ndsCmp];by_cases h0 : ndCmp a b = 0
     · rw [if_pos h0, if_pos (hz _ _ h0)]; exact ih s
     · rw [if_neg h0, if_neg (fun h => h0 (hz _ _ h))]; exact hn.flip _ _
 · induction x with
   | nil => intro y z h1 h2; cases y with
    | nil => simp [ndsCmp] at h1
    | cons b s => cases z with
     | nil => simp [ndsCmp] at h2
     | cons d u => simp [ndsCmp]
   | cons a r ih =>
    intro y z h1 h2;cases y with
    | nil => simp [ndsCmp] at h1
    | cons b s => cases z with
     | nil => simp [ndsCmp] at h2
     | cons d u =>
      rw [ndsCmp] at h1 h2 ⊢;by_cases h0 : ndCmp a b = 0
      · rw [if_pos h0] at h1;have e := hn.eq _ _ h0;rw [e];by_cases h3 : ndCmp b d = 0
        · rw [if_pos h3] at h2 ⊢; exact ih _ _ h1 h2
        · rw [if_neg h3] at h2 ⊢; exact h2
      · rw [if_neg h0] at h1;by_cases h3 : ndCmp b d = 0
        · rw [← hn.eq _ _ h3, if_neg h0]; exact h1
        · rw [if_neg h3] at h2;have h4 := hn.trans _ _ _ h1 h2;rw [if_neg (by omega)]; exact h4
theorem Cm.swo {α : Type} {c : α → α → Int} (h : Cm c) : SWO (ltOf c) := by
 refine ⟨fun x => by simp [ltOf, h.self], fun x y z h1 h2 => ?_, fun x y z h1 h2 => ?_⟩
 · simp only [ltOf, decide_eq_true_eq] at h1 h2 ⊢; exact h.trans _ _ _ h1 h2
 · simp only [ltOf, decide_eq_false_iff_not] at h1 h2 ⊢;intro h3;have h4 : 0 < c z x := (h.flip _ _).2 h3;by_cases e1 : c x y = 0
   · rw [h.eq _ _ e1] at h3; exact h2 h3
   · have a1 : c y x < 0 := (h.flip _ _).1 (by omega);by_cases e2 : c y z = 0
     · rw [← h.eq _ _ e2] at h3; exact h1 h3
     · have a2 : c z y < 0 := (h.flip _ _).1 (by omega);have := h.trans _ _ _ a2 a1;omega
theorem pw_eq {α : Type} {R : α → α → Prop} (hi : ∀ x, ¬ R x x) (ht : ∀ x y z, R x y → R y z → R x z) : ∀ {ps qs : List α}, ps.Pairwise R → qs.Pairwise R → ps.Perm qs → ps = qs
 | [], qs, _, _, h => (List.Perm.nil_eq h)
 | p :: ps, [], _, _, h => absurd h.symm (fun h => by have := List.Perm.nil_eq h; cases this)
 | p :: ps, q :: qs, hp, hq, h => by
  have hp' := List.pairwise_cons.1 hp;have hq' := List.pairwise_cons.1 hq;have e : p = q := by
   rcases List.mem_cons.1 (h.mem_iff.1 (List.mem_cons_self)) with e | h1
   · exact e
   · rcases List.mem_cons.1 (h.mem_iff.2 (List.mem_cons_self (a := q))) with e | h2
     · exact e.symm
     · exact absurd (ht _ _ _ (hp'.1 _ h2) (hq'.1 _ h1)) (hi _)
  subst e;rw [pw_eq hi ht hp'.2 hq'.2 (List.Perm.cons_inv h)]
def LtN (a b : List Nd) : Prop := ndsCmp a b < 0
theorem ltN_irrefl (x : List Nd) : ¬ LtN x x := by unfold LtN; rw [cm_nds.self]; omega
theorem ltN_trans (x y z : List Nd) : LtN x y → LtN y z → LtN x z := cm_nds.trans x y z
theorem le_sorted (qs : List (List Nd)) : (qs.mergeSort ndsLe).Pairwise fun a b => ndsCmp a b ≤ 0 := by
 have h := cm_nds.swo;have h1 : (qs.mergeSort ndsLe).Pairwise fun a b => ndsLe a b = true := List.pairwise_mergeSort
  (by
   intro a b c h1 h2;simp only [ndsLe, decide_eq_true_eq] at h1 h2 ⊢;have := h.ntrans c b a;simp only [ltOf, decide_eq_false_iff_not] at this;have f1 := cm_nds.flip a b;have f2 := cm_nds.flip b c;have f3 := cm_nds.flip a c;by_cases hh : ndsCmp c a < 0
   · exact absurd hh (this (fun hx => by have := f2.2 hx; omega) (fun hx => by have := f1.2 hx; omega))
   · have : ¬ 0 < ndsCmp a c := fun hx => hh (f3.1 hx);omega)
  (by
   intro a b;simp only [ndsLe, Bool.or_eq_true, decide_eq_true_eq];have := cm_nds.flip a b;by_cases hh : ndsCmp a b ≤ 0
   · exact .inl hh
   · exact .inr (by have := this.1 (by omega); omega)) _
 refine h1.imp fun h => ?_;simpa [ndsLe] using h
theorem dedup_pw : ∀ (l : List (List Nd)) (a : List Nd), (a :: l).Pairwise (fun a b => ndsCmp a b ≤ 0) → (a :: dedupA a l).Pairwise LtN
 | [], a, _ => by simp [dedupA]
 | b :: r, a, h => by
  have h1 := List.pairwise_cons.1 h;have h2 := List.pairwise_cons.1 h1.2;rw [dedupA];by_cases h0 : ndsCmp a b = 0
  · rw [if_pos h0];exact dedup_pw r a (List.pairwise_cons.2 ⟨fun c hc => h1.1 c (by simp [hc]), h2.2⟩)
  · rw [if_neg h0];have ih := dedup_pw r b h1.2;have hab : LtN a b := (by have := h1.1 b (by simp); unfold LtN; omega);refine List.pairwise_cons.2 ⟨fun c hc => ?_, ih⟩;rcases List.mem_cons.1 hc with rfl | hc
    · exact hab
    · exact ltN_trans _ _ _ hab ((List.pairwise_cons.1 ih).1 c hc)
theorem setParts_pw (qs : List (List Nd)) : (setParts qs).Pairwise LtN := by
 have h := le_sorted qs;unfold setParts;cases hq : qs.mergeSort ndsLe with
 | nil => simp [dedupP]
 | cons a l => rw [hq] at h; exact dedup_pw l a h
theorem dedup_sub : ∀ (l : List (List Nd)) (a : List Nd), (dedupA a l).Sublist l
 | [], a => by simp [dedupA]
 | b :: r, a => by
  rw [dedupA];split
  · exact (dedup_sub r a).cons _
  · exact (dedup_sub r b).cons_cons _
theorem dedupP_sub : ∀ (l : List (List Nd)), (dedupP l).Sublist l
 | [] => .slnil
 | a :: l => (dedup_sub l a).cons_cons _
theorem dedup_id : ∀ (l : List (List Nd)) (a : List Nd), (a :: l).Pairwise LtN → dedupA a l = l
 | [], a, _ => rfl
 | b :: r, a, h => by
  have h1 := List.pairwise_cons.1 h;have : LtN a b := h1.1 b (by simp);rw [dedupA, if_neg (by unfold LtN at this; omega), dedup_id r b h1.2]
theorem dedupP_id {l : List (List Nd)} (h : l.Pairwise LtN) : dedupP l = l := by
 cases l with
 | nil => rfl
 | cons a l => rw [dedupP, dedup_id l a h]
theorem sorted_nodup {qs : List (List Nd)} (h : qs.Nodup) : (qs.mergeSort ndsLe).Pairwise LtN := by
 have h2 : (qs.mergeSort ndsLe).Nodup := (List.mergeSort_perm _ _).nodup_iff.2 h;refine ((le_sorted qs).and h2).imp ?_;rintro a b ⟨h3, h4⟩;unfold LtN;have : ndsCmp a b ≠ 0 := fun e => h4 (cm_nds.eq _ _ e);omega
theorem setParts_perm {qs : List (List Nd)} (h : qs.Nodup) : (setParts qs).Perm qs := by
 unfold setParts;rw [dedupP_id (sorted_nodup h)];exact List.mergeSort_perm _ _
theorem ltN_nodup {qs : List (List Nd)} (h : qs.Pairwise LtN) : qs.Nodup := h.imp fun h e => by subst e; exact ltN_irrefl _ h
theorem setParts_of {ps qs : List (List Nd)} (h : qs.Perm ps) (hp : ps.Pairwise LtN) : setParts qs = ps := by
 have hn : qs.Nodup := h.nodup_iff.2 (ltN_nodup hp);exact pw_eq ltN_irrefl ltN_trans (setParts_pw qs) hp ((setParts_perm hn).trans h)
end Go.Proofs.YtpheiojmcafolaaGreatDoor
namespace Go.Proofs.YtpheiojmcafolaaGreatDoor
open Go.RowKit Go.Sort
def ChainV : Option (List Nd) → List (List Nd) → Prop
 | _, [] => True
 | l, p :: ps => vLate l p = false ∧ ChainV (some p) ps
def RiseF : ByteArray → List (List Nd) → Prop
 | _, [] => True
 | l, p :: ps => sLate l (headS p) = false ∧ RiseF (headS p) ps
inductive Vx : List Nd → Prop where
 | leaf (n : Nd) : shapedV n = true → ¬ n.op = 5 → ¬ n.op = 6 → ¬ n.op = 7 → Vx [n]
 | set (n : Nd) (ps : List (List Nd)) : shapedV n = true → n.op = 5 → n.n = ps.length → (∀ p ∈ ps, Vx p) → ChainV none ps → Vx (n :: ps.flatten)
 | rcd (n : Nd) (ps : List (List Nd)) : shapedV n = true → n.op = 6 → n.n = ps.length → (∀ p ∈ ps, ∃ f v, p = f :: v) → (∀ f v, f :: v ∈ ps → f.op = 7 ∧ shapedV f = true) → (∀ f v, f :: v ∈ ps → Vx v) → RiseF ⟨#[]⟩ ps → Vx (n :: ps.flatten)
def Fx (p : List Nd) : Prop := ∃ f v, p = f :: v ∧ f.op = 7 ∧ shapedV f = true ∧ Vx v
theorem Vx.ne {xs : List Nd} (h : Vx xs) : ∃ x r, xs = x :: r ∧ shapedV x = true ∧ ¬ x.op = 7 := by
 cases h with
 | leaf n h h5 h6 h7 => exact ⟨n, [], rfl, h, h7⟩
 | set n ps h h5 => exact ⟨n, _, rfl, h, by omega⟩
 | rcd n ps h h6 => exact ⟨n, _, rfl, h, by omega⟩
theorem Vx.rcd' {n : Nd} {ps : List (List Nd)} (h : shapedV n = true) (h6 : n.op = 6) (hn : n.n = ps.length) (hp : ∀ p ∈ ps, Fx p) (hr : RiseF ⟨#[]⟩ ps) : Vx (n :: ps.flatten) :=
 .rcd n ps h h6 hn (fun p hp' => by obtain ⟨f, v, e, _⟩ := hp p hp'; exact ⟨f, v, e⟩)
  (fun f v hm => by obtain ⟨f', v', e, a, b, _⟩ := hp _ hm; injection e with e1 e2; subst e1; exact ⟨a, b⟩)
  (fun f v hm => by obtain ⟨f', v', e, a, b, c⟩ := hp _ hm; injection e with e1 e2; subst e2; exact c) hr
theorem vx_of_vGo (e : List Nd) : ∀ (f : Nat) (t : VTag) (i j : Nat), vGo e f t i = some j →
 match t with
 | .one => Vx (piece e i j)
 | .set c l => ∃ ps : List (List Nd), ps.length = c ∧ piece e i j = ps.flatten ∧ (∀ p ∈ ps, Vx p) ∧ ChainV l ps
 | .flds c l => ∃ ps : List (List Nd), ps.length = c ∧ piece e i j = ps.flatten ∧ (∀ p ∈ ps, Fx p) ∧ RiseF l ps := by
 intro f;induction f with
 | zero =>
  intro t i j h;cases t with
  | one => simp [vGo] at h
  | set c l => simp only [vGo] at h; split at h <;> simp at h; subst h; rename_i hc; subst hc; exact ⟨[], rfl, by rw [piece_self]; rfl, by simp, trivial⟩
  | flds c l => simp only [vGo] at h; split at h <;> simp at h; subst h; rename_i hc; subst hc; exact ⟨[], rfl, by rw [piece_self]; rfl, by simp, trivial⟩
 | succ f ih =>
  intro t i j h;have hb := vGo_bound e _ _ _ _ h;cases t with
  | one =>
   have hij := hb.2.2 rfl;rw [vGo] at h;split at h
   · cases h
   · rename_i n hn;split at h
     · cases h
     · rename_i hsh;have hsh : shapedV n = true := (by simpa using hsh);show Vx (piece e i j);rw [piece_cons hn hij];split at h
       · rename_i h5;obtain ⟨ps, h1, h2, h3, h4⟩ := ih _ _ _ h;rw [h2];have h0 : 0 ≤ n.n := (by simp [shapedV, h5] at hsh; omega);exact .set n ps hsh h5 (by omega) h3 h4
       · rename_i h5;split at h
         · rename_i h6;obtain ⟨ps, h1, h2, h3, h4⟩ := ih _ _ _ h;rw [h2];have h0 : 0 ≤ n.n := (by simp [shapedV, h6] at hsh; omega);exact .rcd' hsh h6 (by omega) h3 h4
         · rename_i h6;split at h
           · cases h
           · rename_i h7;injection h with h
             subst h;rw [piece_self];exact .leaf n hsh h5 h6 h7
  | set c l =>
   cases c with
   | zero => simp only [vGo, Option.some.injEq] at h; subst h; exact ⟨[], rfl, by rw [piece_self]; rfl, by simp, trivial⟩
   | succ c =>
    simp only [vGo] at h;split at h
    · cases h
    · rename_i k hk;split at h
      · cases h
      · rename_i hl;have b1 := vGo_bound e _ _ _ _ hk;have b2 := vGo_bound e _ _ _ _ h;have a1 : Vx (piece e i k) := ih _ _ _ hk;obtain ⟨ps, h1, h2, h3, h4⟩ := ih _ _ _ h;refine ⟨piece e i k :: ps, by simp [h1], by rw [piece_split e b1.2.1 b2.2.1, h2]; rfl, ?_, by simpa using hl, h4⟩;intro p hp;rcases List.mem_cons.1 hp with rfl | hp
        · exact a1
        · exact h3 p hp
  | flds c l =>
   cases c with
   | zero => simp only [vGo, Option.some.injEq] at h; subst h; exact ⟨[], rfl, by rw [piece_self]; rfl, by simp, trivial⟩
   | succ c =>
    simp only [vGo] at h;split at h
    · cases h
    · rename_i m hm;split at h
      · cases h
      · rename_i hl;split at h
        · cases h
        · rename_i k hk;have b1 := vGo_bound e _ _ _ _ hk;have b2 := vGo_bound e _ _ _ _ h;have a1 : Vx (piece e (i + 1) k) := ih _ _ _ hk;obtain ⟨ps, h1, h2, h3, h4⟩ := ih _ _ _ h;have hik : i < k := (by have := b1.2.2 rfl; omega);simp only [not_or, Decidable.not_not, Bool.not_eq_true] at hl;have hl2 : shapedV m = true := (by simpa using hl.2.1);have hp0 : piece e i k = m :: piece e (i + 1) k := piece_cons hm hik;refine ⟨(m :: piece e (i + 1) k) :: ps, by simp [h1], by rw [piece_split e (Nat.le_of_lt hik) b2.2.1, h2, hp0]; rfl, ?_, hl.2.2, h4⟩;intro p hp;rcases List.mem_cons.1 hp with rfl | hp
          · exact ⟨m, _, rfl, hl.1, hl2, a1⟩
          · exact h3 p hp
theorem piece_mid (a p b : List Nd) : piece (a ++ p ++ b) a.length (a.length + p.length) = p := by
 unfold piece;rw [List.append_assoc, List.drop_left];simp
def Rd (p : List Nd) : Prop := ∀ (a b : List Nd) (f : Nat), 2 * p.length ≤ f → vGo (a ++ p ++ b) f .one a.length = some (a.length + p.length)
theorem set_rd : ∀ (ps : List (List Nd)) (l : Option (List Nd)), (∀ p ∈ ps, Rd p ∧ 0 < p.length) → ChainV l ps → ∀ (a b : List Nd) (f : Nat), 2 * ps.flatten.length + 1 ≤ f →
 vGo (a ++ ps.flatten ++ b) f (.set ps.length l) a.length = some (a.length + ps.flatten.length)
 | [], l, _, _, a, b, f, hf => by
  match f, hf with
  | f + 1, _ => simp [vGo]
 | p :: ps, l, hp, hc, a, b, f, hf => by
  have h1 := hp p (by simp);rw [List.flatten_cons, List.length_append] at hf;match f, hf with
  | f + 1, hf =>
   have r1 := h1.1 a (ps.flatten ++ b) f (by omega);have e1 : a ++ p ++ (ps.flatten ++ b) = a ++ (p :: ps).flatten ++ b := (by simp);rw [e1] at r1;have e2 : piece (a ++ (p :: ps).flatten ++ b) a.length (a.length + p.length) = p := (by rw [← e1]; exact piece_mid a p _);have r2 := set_rd ps (some p) (fun q hq => hp q (by simp [hq])) hc.2 (a ++ p) b f (by omega);have e3 : a ++ p ++ ps.flatten ++ b = a ++ (p :: ps).flatten ++ b := (by simp);rw [e3, List.length_append] at r2;simp only [List.length_cons, vGo, r1, e2];rw [if_neg (by rw [hc.1]; simp), r2, List.flatten_cons, List.length_append];congr 1
   omega
theorem fld_rd : ∀ (ps : List (List Nd)) (l : ByteArray), (∀ p ∈ ps, ∃ f v, p = f :: v ∧ f.op = 7 ∧ shapedV f = true ∧ Rd v ∧ 0 < v.length) → RiseF l ps → ∀ (a b : List Nd) (f : Nat), 2 * ps.flatten.length + 1 ≤ f →
 vGo (a ++ ps.flatten ++ b) f (.flds ps.length l) a.length = some (a.length + ps.flatten.length)
 | [], l, _, _, a, b, f, hf => by
  match f, hf with
  | f + 1, _ => simp [vGo]
 | p :: ps, l, hp, hc, a, b, f, hf => by
  obtain ⟨m, v, rfl, h7, hs, hr, hv0⟩ := hp p (by simp);rw [List.flatten_cons, List.length_append, List.length_cons] at hf;match f, hf with
  | f + 1, hf =>
   have r1 := hr (a ++ [m]) (ps.flatten ++ b) f (by omega);have e1 : a ++ [m] ++ v ++ (ps.flatten ++ b) = a ++ ((m :: v) :: ps).flatten ++ b := (by simp);rw [e1, List.length_append, List.length_singleton] at r1;have r2 := fld_rd ps m.s (fun q hq => hp q (by simp [hq])) hc.2 (a ++ m :: v) b f (by omega);have e3 : a ++ m :: v ++ ps.flatten ++ b = a ++ ((m :: v) :: ps).flatten ++ b := (by simp);rw [e3, List.length_append, List.length_cons] at r2;have hm : (a ++ ((m :: v) :: ps).flatten ++ b)[a.length]? = some m := (by simp);have hl : sLate l m.s = false := hc.1;simp only [List.length_cons, vGo, hm];rw [if_neg (by simp [h7, hs, hl]), r1];simp only;rw [show a.length + 1 + v.length = a.length + (v.length + 1) from by omega, r2, List.flatten_cons, List.length_append, List.length_cons];congr 1
   omega
theorem rd_vx {xs : List Nd} (h : Vx xs) : Rd xs := by
 induction h with
 | leaf n hs h5 h6 h7 =>
  intro a b f hf;match f, hf with
  | f + 1, _ => simp [vGo, hs, h5, h6, h7]
 | set n ps hs h5 hn hv hc ih =>
  intro a b f hf;match f, hf with
  | f + 1, hf =>
   rw [List.length_cons] at hf;have r := set_rd ps none (fun p hp => ⟨ih p hp, by obtain ⟨x, r, e, _⟩ := (hv p hp).ne; rw [e]; simp⟩) hc (a ++ [n]) b f (by omega);have e1 : a ++ [n] ++ ps.flatten ++ b = a ++ (n :: ps.flatten) ++ b := (by simp);rw [e1, List.length_append, List.length_singleton] at r;have hm : (a ++ (n :: ps.flatten) ++ b)[a.length]? = some n := (by simp);simp only [vGo, hm, hs, h5];simp only [Bool.true_eq_false, if_false, if_true];rw [show n.n.toNat = ps.length from by omega, r, List.length_cons];congr 1
   omega
 | rcd n ps hs h6 hn h1 h2 h3 hc ih =>
  intro a b f hf;match f, hf with
  | f + 1, hf =>
   rw [List.length_cons] at hf;have r := fld_rd ps ⟨#[]⟩ (fun p hp => by
    obtain ⟨m, v, rfl⟩ := h1 p hp;obtain ⟨a1, a2⟩ := h2 m v hp;exact ⟨m, v, rfl, a1, a2, ih m v hp, by obtain ⟨x, r, e, _⟩ := (h3 m v hp).ne; rw [e]; simp⟩) hc (a ++ [n]) b f (by omega)
   have e1 : a ++ [n] ++ ps.flatten ++ b = a ++ (n :: ps.flatten) ++ b := (by simp);rw [e1, List.length_append, List.length_singleton] at r;have hm : (a ++ (n :: ps.flatten) ++ b)[a.length]? = some n := (by simp);have h5 : ¬ n.op = 5 := (by omega);simp only [vGo, hm, hs, h6];simp only [Bool.true_eq_false, if_false, if_true];rw [if_neg (by omega), show n.n.toNat = ps.length from by omega, r, List.length_cons];congr 1
   omega
theorem val_iff (e : List Nd) : valErr e = 0 ↔ e.length ≤ 200 ∧ Vx e := by
 unfold valErr;constructor
 · intro h;split at h
   · cases h
   · split at h
     · rename_i h1 h2;have := vx_of_vGo e _ _ _ _ h2;have h3 : Vx (piece e 0 e.length) := this;rw [show piece e 0 e.length = e from by simp [piece]] at h3;exact ⟨by omega, h3⟩
     · cases h
 · rintro ⟨h1, h2⟩;have r := rd_vx h2 [] [] (2 * e.length) (Nat.le_refl _);simp only [List.nil_append, List.append_nil, List.length_nil, Nat.zero_add] at r;rw [if_neg (by omega), if_pos r]
theorem shaped_tv {n : Nd} (h : shapedV n = true) : shapedT n = true := by
 by_cases h5 : n.op = 5 ∨ n.op = 6
 · unfold shapedT;rw [if_neg (by omega), if_pos h5];unfold shapedV at h;rw [if_neg (by omega), if_neg (by omega), if_neg (by omega), if_neg (by omega), if_pos h5] at h;exact h
 · by_cases h7 : n.op = 7
   · unfold shapedT;rw [if_neg (by omega), if_neg (by omega), if_neg (by omega), if_pos (by omega)];unfold shapedV at h;rw [if_neg (by omega), if_neg (by omega), if_neg (by omega), if_neg (by omega), if_neg (by omega), if_pos h7] at h;exact h
   · have h1 : n.op = 1 ∨ n.op = 2 ∨ n.op = 3 ∨ n.op = 4 := by
      unfold shapedV at h;by_cases a1 : n.op = 1
      · omega
      · by_cases a2 : n.op = 2
        · omega
        · by_cases a3 : n.op = 3
          · omega
          · by_cases a4 : n.op = 4
            · omega
            · rw [if_neg a1, if_neg a2, if_neg a3, if_neg a4, if_neg h5, if_neg h7] at h; cases h
     unfold shapedT;rw [if_pos h1, (val_iff [n]).2 ⟨by simp, .leaf n h (by omega) (by omega) h7⟩];rfl
theorem ex_one {p : List Nd} {b : Bool} (h : Ex (.one b) p) (r : Bool) (hr : r = b) (hb : r = false) : Ex (.more 1 r ⟨#[]⟩) p := by
 subst hr; subst hb;obtain ⟨x, xs, rfl, _, _⟩ := ex_ne h;have := Ex.cons 0 false ⟨#[]⟩ x xs [] (by simp) h (.nil _ _);simpa using this
theorem fx_ex {f : Nd} {v : List Nd} (h7 : f.op = 7) (hs : shapedV f = true) (hv : Ex (.one false) v) : Ex (.one true) (f :: v) := by
 refine .one f v true (shaped_tv hs) (by simp [h7]) ?_;have : ndParts f = 1 := by simp [ndParts, h7]
 rw [this, show (f.op == 6) = false from by simp [h7]];exact ex_one hv false rfl rfl
theorem rise_exk : ∀ {ps : List (List Nd)} {l : ByteArray}, (∀ p ∈ ps, Ex (.one true) p) → RiseF l ps → ExK true l ps
 | [], _, _, _ => trivial
 | p :: ps, l, h, hr => ⟨h p (by simp), fun _ => hr.1, rise_exk (fun q hq => h q (by simp [hq])) hr.2⟩
theorem exk_rise : ∀ {ps : List (List Nd)} {l : ByteArray}, ExK true l ps → RiseF l ps
 | [], _, _ => trivial
 | _ :: _, _, h => ⟨h.2.1 rfl, exk_rise h.2.2⟩
theorem vx_ex {xs : List Nd} (h : Vx xs) : Ex (.one false) xs := by
 induction h with
 | leaf n hs h5 h6 h7 =>
  refine .one n [] false (shaped_tv hs) (by simp [h7]) ?_;have h1 : n.op = 1 ∨ n.op = 2 ∨ n.op = 3 ∨ n.op = 4 := by
   unfold shapedV at hs;by_cases a1 : n.op = 1
   · omega
   · by_cases a2 : n.op = 2
     · omega
     · by_cases a3 : n.op = 3
       · omega
       · by_cases a4 : n.op = 4
         · omega
         · rw [if_neg a1, if_neg a2, if_neg a3, if_neg a4, if_neg (by omega), if_neg h7] at hs; cases hs
  have : ndParts n = 0 := by rcases h1 with h | h | h | h <;> simp [ndParts, h]
  rw [this];exact .nil _ _
 | set n ps hs h5 hn hv hc ih =>
  refine .one n _ false (shaped_tv hs) (by simp [h5]) ?_;have : ndParts n = ps.length := by simp [ndParts, h5, hn]
  rw [this, show (n.op == 6) = false from by simp [h5], Int.toNat_natCast];exact exk_more ps false _ (exk_false ih)
 | rcd n ps hs h6 hn h1 h2 h3 hc ih =>
  refine .one n _ false (shaped_tv hs) (by simp [h6]) ?_;have : ndParts n = ps.length := by simp [ndParts, h6, hn]
  rw [this, show (n.op == 6) = true from by simp [h6], Int.toNat_natCast];refine exk_more ps true _ (rise_exk (fun p hp => ?_) hc);obtain ⟨f, v, rfl⟩ := h1 p hp;obtain ⟨a1, a2⟩ := h2 f v hp;exact fx_ex a1 a2 (ih f v hp)
theorem chain_pw : ∀ {ps : List (List Nd)} {l : Option (List Nd)}, ChainV l ps → ps.Pairwise LtN ∧ ∀ a, l = some a → ∀ p ∈ ps, LtN a p
 | [], l, _ => by simp
 | p :: ps, l, h => by
  have ih := chain_pw h.2;refine ⟨List.pairwise_cons.2 ⟨ih.2 p rfl, ih.1⟩, ?_⟩;rintro a rfl q hq;have h1 : LtN a p := by
   have := h.1;simp only [vLate, decide_eq_false_iff_not] at this;unfold LtN; omega
  rcases List.mem_cons.1 hq with rfl | hq
  · exact h1
  · exact ltN_trans _ _ _ h1 (ih.2 p rfl q hq)
theorem chain_of : ∀ {ps : List (List Nd)} {l : Option (List Nd)}, ps.Pairwise LtN → (∀ a, l = some a → ∀ p ∈ ps, LtN a p) → ChainV l ps
 | [], _, _, _ => trivial
 | p :: ps, l, h, hl => by
  have h' := List.pairwise_cons.1 h;refine ⟨?_, chain_of h'.2 (by rintro a ⟨rfl⟩ q hq; exact h'.1 q hq)⟩;cases l with
  | none => rfl
  | some a => have := hl a rfl p (by simp); unfold LtN at this; simp only [vLate, decide_eq_false_iff_not]; omega
end Go.Proofs.YtpheiojmcafolaaGreatDoor
namespace Go.Proofs.YtpheiojmcafolaaGreatDoor
open Go.RowKit Go.Sort
theorem ren_shapedV {m : Mv} (hm : mvErr m = 0) {x : Nd} (h : shapedV x = true) : shapedV (ren m x) = true := by
 unfold ren;split
 · rename_i hc;have hl := hc.1;have ht := (mv_ok hm).2.2;have ho : x.op = 7 ∨ x.op = 4 := by
    unfold looksB at hl;unfold shapedV at h;split at hl
    · rename_i ho;rcases ho with ho | ho | ho
      · exact .inl ho
      · simp [ho] at h
      · simp [ho] at h
    · split at hl
      · rename_i ho;rcases ho with ho | ho
        · exact .inr ho
        · simp [ho] at h
      · cases hl
   unfold shapedV at h ⊢;rcases ho with ho | ho
   · simp only [ho] at h ⊢;simp at h ⊢;exact ⟨h.1, ht⟩
   · simp only [ho] at h ⊢;simp at h ⊢;exact ⟨⟨h.1.1, ht⟩, h.2⟩
 · exact h
def backM (m : Mv) : Mv := ⟨m.what, m.to_, m.fr⟩
theorem looks_back (m : Mv) (x : Nd) : looksB (backM m) x = looksB m x := rfl
theorem toList_ext {x y : ByteArray} (h : x.toList = y.toList) : x = y := bytes_ext (by rw [ByteArray.toList_eq, ByteArray.toList_eq] at h; exact h)
theorem ren_back {m : Mv} {x : Nd} (h : looksB m x = true → x.s.toList ≠ m.to_.toList) : ren (backM m) (ren m x) = x := by
 by_cases hc : looksB m x = true ∧ x.s.toList = m.fr.toList
 · have e1 : ren m x = ⟨x.op, x.n, m.to_, x.t⟩ := by unfold ren; rw [if_pos hc]
   have hl : looksB (backM m) ⟨x.op, x.n, m.to_, x.t⟩ = true := by rw [looks_back, ← e1, looks_ren]; exact hc.1
   rw [e1];unfold ren;rw [if_pos ⟨hl, rfl⟩];show (⟨x.op, x.n, m.fr, x.t⟩ : Nd) = x;rw [← toList_ext hc.2]
 · have e1 : ren m x = x := by unfold ren; rw [if_neg hc]
   rw [e1];unfold ren;rw [if_neg];rintro ⟨h1, h2⟩;exact h h1 h2
theorem allSome_cases {α β : Type} (f : α → Option β) : ∀ (ps : List α), allSome (ps.map f) = none ∨ ∃ qs, allSome (ps.map f) = some qs ∧ qs.length = ps.length ∧ ∀ q ∈ qs, ∃ p ∈ ps, f p = some q
 | [] => .inr ⟨[], rfl, rfl, by simp⟩
 | p :: ps => by
  rw [List.map_cons];cases hp : f p with
  | none => exact .inl rfl
  | some y =>
   rw [allSome];rcases allSome_cases f ps with h | ⟨qs, h, hl, hq⟩
   · rw [h]; exact .inl rfl
   · rw [h];refine .inr ⟨y :: qs, rfl, by simp [hl], ?_⟩;intro q hq';rcases List.mem_cons.1 hq' with rfl | hq'
     · exact ⟨p, by simp, hp⟩
     · obtain ⟨p', h1, h2⟩ := hq q hq';exact ⟨p', by simp [h1], h2⟩
theorem allSome_len {α : Type} (f : List α → Option (List Nd)) : ∀ (ps : List (List α)) (qs : List (List Nd)), allSome (ps.map f) = some qs → (∀ p ∈ ps, ∀ q, f p = some q → q.length ≤ p.length) → qs.flatten.length ≤ ps.flatten.length
 | [], qs, h, _ => by injection h with h; subst h; simp
 | p :: ps, qs, h, hl => by
  rw [List.map_cons] at h;cases hp : f p with
  | none => rw [hp] at h; cases h
  | some y =>
   rw [hp, allSome] at h;cases hr : allSome (ps.map f) with
   | none => rw [hr] at h; cases h
   | some r =>
    rw [hr] at h;injection h with h
    subst h;have h1 := allSome_len f ps r hr (fun p hp => hl p (by simp [hp]));have h2 := hl p (by simp) y hp;simp only [List.flatten_cons, List.length_append]; omega
theorem mem_len {ps : List (List Nd)} {p : List Nd} (h : p ∈ ps) : p.length ≤ ps.flatten.length := by
 obtain ⟨l1, l2, rfl⟩ := List.append_of_mem h;simp; omega
theorem valsErr_zero : ∀ {qs : List (List Nd)}, (∀ q ∈ qs, Vx q ∧ q.length ≤ 200) → valsErr qs = 0
 | [], _ => rfl
 | q :: qs, h => by
  rw [valsErr, (val_iff q).2 ⟨(h q (by simp)).2, (h q (by simp)).1⟩, if_neg (by simp), valsErr_zero fun q hq => h q (by simp [hq])]
theorem mem_setParts {qs : List (List Nd)} {p : List Nd} (h : p ∈ setParts qs) : p ∈ qs := (List.mergeSort_perm _ _).mem_iff.1 ((dedupP_sub _).subset h)
theorem sub_flat {l1 l2 : List (List Nd)} (h : l1.Sublist l2) : l1.flatten.length ≤ l2.flatten.length := by
 induction h with
 | slnil => exact Nat.le_refl _
 | cons a h ih => rw [List.flatten_cons, List.length_append]; omega
 | cons_cons a h ih => rw [List.flatten_cons, List.flatten_cons, List.length_append, List.length_append]; omega
theorem setParts_len (qs : List (List Nd)) : (setParts qs).flatten.length ≤ qs.flatten.length := by
 have h1 : (setParts qs).flatten.length ≤ (qs.mergeSort ndsLe).flatten.length := sub_flat (dedupP_sub _);rw [(List.mergeSort_perm qs ndsLe).flatten.length_eq] at h1;exact h1
theorem setOf_ok {qs : List (List Nd)} (hv : ∀ q ∈ qs, Vx q) (hl : qs.flatten.length + 1 ≤ 200) : setOfP qs = (setNodes qs, 0) ∧ Vx (setNodes qs) ∧ (setNodes qs).length ≤ qs.flatten.length + 1 := by
 have h1 := setParts_len qs;have h2 : (setNodes qs).length ≤ qs.flatten.length + 1 := by unfold setNodes; rw [List.length_cons]; omega
 refine ⟨?_, ?_, h2⟩
 · unfold setOfP;rw [valsErr_zero (fun q hq => ⟨hv q hq, by have := mem_len hq; omega⟩), if_neg (by simp), if_neg (by omega)]
 · exact .set _ _ (by simp [shapedV, ByteArray.toList_eq]) rfl rfl (fun p hp => hv p (mem_setParts hp)) (chain_of (setParts_pw qs) (by simp))
theorem fld_step (m : Mv) (vals : Bool) (k : Nat) {f : Nd} {v : List Nd} (hv : Ex (.one false) v) (h7 : f.op = 7) : movGo m vals (k + 1) (f :: v) = (movGo m vals k v).map fun w => ren m f :: w := by
 have h := movGo_any m vals k f (ps := [v]) (by intro p hp; simp at hp; subst hp; exact ⟨_, hv⟩);simp only [List.flatten_cons, List.flatten_nil, List.append_nil, List.map_cons, List.map_nil] at h;rw [h];cases movGo m vals k v with
 | none => rfl
 | some w => simp [allSome, h7]
theorem leaf_step (m : Mv) (vals : Bool) (k : Nat) {n : Nd} (h5 : ¬ n.op = 5) (h6 : ¬ n.op = 6) : movGo m vals (k + 1) [n] = some [ren m n] := by
 have h := movGo_any m vals k n (ps := []) (by simp);simp only [List.flatten_nil, List.map_nil, allSome, h5, h6, false_and, if_false] at h;exact h
theorem nodup_rise {qs : List (List Nd)} (h : ∀ q ∈ qs, Ex (.one true) q) (hn : (namesOf qs).Nodup) : ExK true ⟨#[]⟩ (sortN qs) := by
 refine exk_of_pw (fun q hq => h q ((sortN_perm qs).mem_iff.1 hq)) (sortN_pw hn) ?_;intro s hs';obtain ⟨q, hq, rfl⟩ := List.mem_map.1 hs';obtain ⟨x, xs, rfl, hsx, hx7⟩ := ex_ne (h q ((sortN_perm qs).mem_iff.1 hq));rw [show (⟨#[]⟩ : ByteArray).toList = [] from by rw [ByteArray.toList_eq]];exact nm_ne (fld_name hsx (by simpa using hx7))
theorem vx_mov {m : Mv} (hm : mvErr m = 0) {xs : List Nd} (h : Vx xs) : xs.length ≤ 200 → ∀ k, xs.length ≤ k → movGo m true k xs = none ∨ ∃ ys, movGo m true k xs = some ys ∧ Vx ys ∧ ys.length ≤ xs.length := by
 induction h with
 | leaf n hs h5 h6 h7 =>
  intro hl k hk;match k, hk with
  | k + 1, hk =>
   refine .inr ⟨_, leaf_step m true k h5 h6, ?_, by simp⟩;have := ren_op m n;exact .leaf _ (ren_shapedV hm hs) (by omega) (by omega) (by omega)
 | set n ps hs h5 hn hv hc ih =>
  intro hl k hk;rw [List.length_cons] at hl hk;match k, hk with
  | k + 1, hk =>
   rw [movGo_any m true k n fun p hp => ⟨_, vx_ex (hv p hp)⟩];have hp : ∀ p ∈ ps, movGo m true k p = none ∨ ∃ ys, movGo m true k p = some ys ∧ Vx ys ∧ ys.length ≤ p.length := fun p hp => ih p hp (by have := mem_len hp; omega) k (by have := mem_len hp; omega);have hp' : ∀ p ∈ ps, ∀ q, movGo m true k p = some q → Vx q ∧ q.length ≤ p.length := fun p hpm q hq => by
    rcases hp p hpm with h | ⟨ys, h, h'⟩
    · rw [h] at hq; cases hq
    · rw [h] at hq; injection hq with hq; subst hq; exact h'
   rcases allSome_cases (movGo m true k) ps with h | ⟨qs, h, hlq, hq⟩
   · rw [h]; exact .inl rfl
   · have h6 : ¬ n.op = 6 := (by omega);have hle := allSome_len _ _ _ h (fun p hpm q hq => (hp' p hpm q hq).2);have hvq : ∀ q ∈ qs, Vx q := fun q hqm => by obtain ⟨p, h1, h2⟩ := hq q hqm; exact (hp' p h1 q h2).1
     obtain ⟨a1, a2, a3⟩ := setOf_ok hvq (by omega);rw [h];simp only [h5, if_true, true_and];refine .inr ⟨_, rfl, ?_, ?_⟩
     · rw [a1]; exact a2
     · rw [a1, List.length_cons]; show (setNodes qs).length ≤ _; omega
 | rcd n ps hs h6 hn h1 h2 h3 hc ih =>
  intro hl k hk;rw [List.length_cons] at hl hk;match k, hk with
  | k + 1, hk =>
   have hex : ∀ p ∈ ps, Ex (.one true) p := fun p hp => by
    obtain ⟨f, v, rfl⟩ := h1 p hp;obtain ⟨a1, a2⟩ := h2 f v hp;exact fx_ex a1 a2 (vx_ex (h3 f v hp))
   rw [movGo_any m true k n fun p hp => ⟨_, hex p hp⟩];have hp' : ∀ p ∈ ps, ∀ q, movGo m true k p = some q → Fx q ∧ q.length ≤ p.length := fun p hpm q hq => by
    have hle := mem_len hpm;obtain ⟨f, v, rfl⟩ := h1 p hpm;obtain ⟨a1, a2⟩ := h2 f v hpm;rw [List.length_cons] at hle;match k, hk with
    | 0, hk => omega
    | k + 1, hk =>
     rw [fld_step m true k (vx_ex (h3 f v hpm)) a1] at hq;rcases ih f v hpm (by omega) k (by omega) with h | ⟨ys, h, h', h''⟩
     · rw [h] at hq; cases hq
     · rw [h] at hq;injection hq with hq
       subst hq;exact ⟨⟨ren m f, ys, rfl, by rw [(ren_op m f).1]; exact a1, ren_shapedV hm a2, h'⟩, by simpa using h''⟩
   rcases allSome_cases (movGo m true k) ps with h | ⟨qs, h, hlq, hq⟩
   · rw [h]; exact .inl rfl
   · have hle := allSome_len _ _ _ h (fun p hpm q hq => (hp' p hpm q hq).2);have hvq : ∀ q ∈ qs, Fx q := fun q hqm => by obtain ⟨p, h1, h2⟩ := hq q hqm; exact (hp' p h1 q h2).1
     have heq : ∀ q ∈ qs, Ex (.one true) q := fun q hqm => by obtain ⟨f, v, rfl, a, b, c⟩ := hvq q hqm; exact fx_ex a b (vx_ex c)
     rw [h];simp only [h6, if_true];by_cases hnd : (namesOf qs).Nodup
     · rw [if_pos hnd];refine .inr ⟨_, rfl, ?_, ?_⟩
       · have e := ren_op m n;exact .rcd' (ren_shapedV hm hs) (by omega) (by rw [e.2.1, hn, (sortN_perm qs).length_eq, hlq]) (fun p hp => hvq p ((sortN_perm qs).mem_iff.1 hp)) (exk_rise (nodup_rise heq hnd))
       · rw [List.length_cons, List.length_cons, (sortN_perm qs).flatten.length_eq]; omega
     · rw [if_neg hnd]; exact .inl rfl
theorem ex_mov {m : Mv} (hm : mvErr m = 0) : ∀ (N : Nat) (xs : List Nd) (b : Bool), xs.length ≤ N → Ex (.one b) xs → ∀ k, xs.length ≤ k → movGo m false k xs = none ∨ ∃ ys, movGo m false k xs = some ys ∧ Ex (.one b) ys ∧ ys.length ≤ xs.length
 | 0, xs, b, hN, hx => by obtain ⟨x, r, rfl, _, _⟩ := ex_ne hx; simp at hN
 | N + 1, xs, b, hN, hx => by
  intro k hk;cases hx with
  | one x body _ hs h7 hbd =>
   obtain ⟨ps, hc, rfl, hK⟩ := ex_pieces hbd;rw [List.length_cons] at hN hk;match k, hk with
   | k + 1, hk =>
    have hall := exk_all hK;rw [movGo_step m false k x hK];have hp' : ∀ p ∈ ps, ∀ q, movGo m false k p = some q → Ex (.one (x.op == 6)) q ∧ q.length ≤ p.length := fun p hpm q hq => by
     have hle := mem_len hpm;rcases ex_mov hm N p _ (by omega) (hall p hpm) k (by omega) with h | ⟨ys, h, h'⟩
     · rw [h] at hq; cases hq
     · rw [h] at hq; injection hq with hq; subst hq; exact h'
    have e := ren_op m x;rcases allSome_cases (movGo m false k) ps with h | ⟨qs, h, hlq, hq⟩
    · rw [h]; exact .inl rfl
    · have hle := allSome_len _ _ _ h (fun p hpm q hq => (hp' p hpm q hq).2);have hvq : ∀ q ∈ qs, Ex (.one (x.op == 6)) q := fun q hqm => by obtain ⟨p, h1, h2⟩ := hq q hqm; exact (hp' p h1 q h2).1
      rw [h];simp only [Bool.false_eq_true, and_false, if_false];by_cases h6 : x.op = 6
      · rw [if_pos h6];rw [show (x.op == 6) = true from by simp [h6]] at hvq;by_cases hnd : (namesOf qs).Nodup
        · rw [if_pos hnd];refine .inr ⟨_, rfl, .one _ _ b (ren_shaped hm hs) (by rw [e.1]; exact h7) ?_, ?_⟩
          · have := exk_more _ _ _ (nodup_rise hvq hnd);rw [ren_parts, e.1, ← hc, ← hlq, ← (sortN_perm qs).length_eq, h6]; exact this
          · rw [List.length_cons, List.length_cons, (sortN_perm qs).flatten.length_eq]; omega
        · rw [if_neg hnd]; exact .inl rfl
      · rw [if_neg h6];rw [show (x.op == 6) = false from by simp [h6]] at hvq;refine .inr ⟨_, rfl, .one _ _ b (ren_shaped hm hs) (by rw [e.1]; exact h7) ?_, ?_⟩
        · have := exk_more _ _ ⟨#[]⟩ (exk_false hvq);rw [ren_parts, e.1, ← hc, ← hlq, show (x.op == 6) = false from by simp [h6]]; exact this
        · rw [List.length_cons, List.length_cons]; omega
theorem map_flat_len {F : List Nd → List Nd} : ∀ (ps : List (List Nd)), (∀ p ∈ ps, (F p).length = p.length) → (ps.map F).flatten.length = ps.flatten.length
 | [], _ => rfl
 | p :: ps, h => by rw [List.map_cons, List.flatten_cons, List.flatten_cons, List.length_append, List.length_append, h p (by simp), map_flat_len ps fun q hq => h q (by simp [hq])]
theorem map_id {α : Type} {f : α → α} : ∀ (l : List α), (∀ x ∈ l, f x = x) → l.map f = l
 | [], _ => rfl
 | x :: l, h => by rw [List.map_cons, h x (by simp), map_id l fun y hy => h y (by simp [hy])]
theorem rise_names {ps : List (List Nd)} {l : ByteArray} (h : ExK true l ps) : (namesOf ps).Pairwise (· < ·) := (exk_pw h).1
theorem sortN_of {ps qs : List (List Nd)} {l : ByteArray} (h : ExK true l ps) (hp : qs.Perm ps) : (namesOf qs).Nodup ∧ sortN qs = ps := by
 have h1 := rise_names h;have h2 : (namesOf qs).Nodup := (hp.map _).nodup_iff.2 (pw_nodup h1);exact ⟨h2, rise_eq (sortN_pw h2) h1 ((sortN_perm qs).trans hp)⟩
theorem vx_back {m : Mv} (hm : mvErr m = 0) {xs : List Nd} (h : Vx xs) : xs.length ≤ 200 → (∀ x ∈ xs, looksB m x = true → x.s.toList ≠ m.to_.toList) → ∀ k, xs.length ≤ k →
 ∃ ys, movGo m true k xs = some ys ∧ Vx ys ∧ ys.length = xs.length ∧ ys.head? = xs.head?.map (ren m) ∧ movGo (backM m) true k ys = some xs := by
 induction h with
 | leaf n hs h5 h6 h7 =>
  intro hl hf k hk;match k, hk with
  | k + 1, hk =>
   have := ren_op m n;refine ⟨_, leaf_step m true k h5 h6, .leaf _ (ren_shapedV hm hs) (by omega) (by omega) (by omega), by simp, rfl, ?_⟩;rw [leaf_step (backM m) true k (by omega) (by omega), ren_back (hf n (by simp))]
 | set n ps hs h5 hn hv hc ih =>
  intro hl hf k hk;rw [List.length_cons] at hl hk;match k, hk with
  | k + 1, hk =>
   have hlen : ∀ p ∈ ps, p.length ≤ ps.flatten.length := fun p hp => mem_len hp;have gm : ∀ p ∈ ps, ∃ ys, movGo m true k p = some ys ∧ Vx ys ∧ ys.length = p.length ∧ ys.head? = p.head?.map (ren m) ∧ movGo (backM m) true k ys = some p := fun p hp =>
    ih p hp (by have := hlen p hp; omega) (fun x hx => hf x (by simp; exact .inr ⟨p, hp, hx⟩)) k (by have := hlen p hp; omega)
   have em := allSome_of (movGo m true k) ps (fun p hp => by obtain ⟨y, h, _⟩ := gm p hp; exact ⟨y, h⟩);generalize hF : (fun p => (movGo m true k p).getD default) = F at em;have fm : ∀ p ∈ ps, Vx (F p) ∧ (F p).length = p.length ∧ movGo (backM m) true k (F p) = some p := fun p hp => by
    obtain ⟨y, h, h1, h2, _, h3⟩ := gm p hp;have : F p = y := (by rw [← hF]; simp [h]);rw [this]; exact ⟨h1, h2, h3⟩
   have h6 : ¬ n.op = 6 := (by omega);have hpw := (chain_pw hc).1;have hnd : (ps.map F).Nodup := by
    rw [List.Nodup, List.pairwise_map];refine hpw.imp_of_mem ?_;intro a b ha hb hab e;have e1 := (fm a ha).2.2;rw [e, (fm b hb).2.2] at e1;injection e1 with e1
    subst e1;exact ltN_irrefl _ hab
   have hvq : ∀ q ∈ ps.map F, Vx q := fun q hq => by obtain ⟨p, hp, rfl⟩ := List.mem_map.1 hq; exact (fm p hp).1
   have hfl := map_flat_len ps (F := F) fun p hp => (fm p hp).2.1;obtain ⟨a1, a2, a3⟩ := setOf_ok hvq (by omega);have hperm := setParts_perm hnd;have hren : ren m n = n := (by unfold ren looksB; simp [h5]);have hn5 : n = ⟨5, ps.length, ⟨#[]⟩, ⟨#[]⟩⟩ := by
    simp [shapedV, h5] at hs;have e1 : n.s = ⟨#[]⟩ := toList_ext (by rw [hs.1.2, ByteArray.toList_eq]);have e2 : n.t = ⟨#[]⟩ := toList_ext (by rw [hs.2, ByteArray.toList_eq]);cases n; simp at h5 hn e1 e2; simp [h5, hn, e1, e2]
   refine ⟨setNodes (ps.map F), ?_, a2, ?_, ?_, ?_⟩
   · rw [movGo_any m true k n fun p hp => ⟨_, vx_ex (hv p hp)⟩, em];simp only [h5, show ¬ (5 : Int) = 6 from by omega, if_false, if_true, true_and, a1]
   · unfold setNodes;rw [List.length_cons, List.length_cons, hperm.flatten.length_eq, hfl]
   · show some _ = some _;rw [hren, hn5, hperm.length_eq, List.length_map]
   · unfold setNodes;rw [movGo_any (backM m) true k _ fun q hq => ⟨_, vx_ex (hvq q (mem_setParts hq))⟩];have gb : ∀ q ∈ setParts (ps.map F), ∃ p ∈ ps, q = F p := fun q hq => by
      obtain ⟨p, hp, rfl⟩ := List.mem_map.1 (mem_setParts hq); exact ⟨p, hp, rfl⟩
     rw [allSome_of _ _ (fun q hq => by obtain ⟨p, hp, rfl⟩ := gb q hq; exact ⟨p, (fm p hp).2.2⟩)];generalize hG : (fun q => (movGo (backM m) true k q).getD default) = G;have hgf : (ps.map F).map G = ps := by
      rw [List.map_map];refine map_id ps fun p hp => ?_;show G (F p) = p;rw [← hG];simp [(fm p hp).2.2]
     have hpG : ((setParts (ps.map F)).map G).Perm ps := (hperm.map G).trans (List.Perm.of_eq hgf);obtain ⟨b1, _, _⟩ := setOf_ok (qs := (setParts (ps.map F)).map G) (fun q hq => hv q (hpG.mem_iff.1 hq)) (by rw [hpG.flatten.length_eq]; omega);simp only [show ¬ (5 : Int) = 6 from by omega, if_false, if_true, true_and, b1];unfold setNodes;rw [setParts_of hpG hpw, ← hn5]
 | rcd n ps hs h6 hn h1 h2 h3 hc ih =>
  intro hl hf k hk;rw [List.length_cons] at hl hk;match k, hk with
  | k + 1, hk =>
   have hex : ∀ p ∈ ps, Ex (.one true) p := fun p hp => by
    obtain ⟨f, v, rfl⟩ := h1 p hp;obtain ⟨a1, a2⟩ := h2 f v hp;exact fx_ex a1 a2 (vx_ex (h3 f v hp))
   have hK := rise_exk hex hc;have gm : ∀ p ∈ ps, ∃ ys, movGo m true k p = some ys ∧ Fx ys ∧ ys.length = p.length ∧ ys.head? = p.head?.map (ren m) ∧ movGo (backM m) true k ys = some p := fun p hpm => by
    have hle := mem_len hpm;have hfp : ∀ x ∈ p, looksB m x = true → x.s.toList ≠ m.to_.toList := fun x hx => hf x (by simp; exact .inr ⟨p, hpm, hx⟩);obtain ⟨f, v, rfl⟩ := h1 p hpm;obtain ⟨a1, a2⟩ := h2 f v hpm;rw [List.length_cons] at hle;match k, hk with
    | 0, hk => omega
    | k + 1, hk =>
     obtain ⟨ys, c1, c2, c3, _, c4⟩ := ih f v hpm (by omega) (fun x hx => hfp x (by simp [hx])) k (by omega);refine ⟨ren m f :: ys, by rw [fld_step m true k (vx_ex (h3 f v hpm)) a1, c1]; rfl, ⟨_, ys, rfl, by rw [(ren_op m f).1]; exact a1, ren_shapedV hm a2, c2⟩, by simp [c3], rfl, ?_⟩;rw [fld_step (backM m) true k (vx_ex c2) (by rw [(ren_op m f).1]; exact a1), c4, Option.map_some, ren_back (hfp f (by simp))]
   have em := allSome_of (movGo m true k) ps (fun p hp => by obtain ⟨y, h, _⟩ := gm p hp; exact ⟨y, h⟩);generalize hF : (fun p => (movGo m true k p).getD default) = F at em;have fm : ∀ p ∈ ps, Fx (F p) ∧ (F p).length = p.length ∧ (F p).head? = p.head?.map (ren m) ∧ movGo (backM m) true k (F p) = some p := fun p hp => by
    obtain ⟨y, h, h1, h2, h4, h3⟩ := gm p hp;have : F p = y := (by rw [← hF]; simp [h]);rw [this]; exact ⟨h1, h2, h4, h3⟩
   have hvq : ∀ q ∈ ps.map F, Fx q := fun q hq => by obtain ⟨p, hp, rfl⟩ := List.mem_map.1 hq; exact (fm p hp).1
   have heq : ∀ q ∈ ps.map F, Ex (.one true) q := fun q hqm => by obtain ⟨f, v, rfl, a, b, c⟩ := hvq q hqm; exact fx_ex a b (vx_ex c)
   have hfl := map_flat_len ps (F := F) fun p hp => (fm p hp).2.1;have hpf : ∀ p ∈ ps, ∃ x xs, p = x :: xs ∧ x.op = 7 := fun p hp => by
    obtain ⟨f, v, rfl⟩ := h1 p hp;exact ⟨f, v, rfl, (h2 f v hp).1⟩
   have hhd : (ps.map F).map List.head? = ps.map fun p => p.head?.map (ren m) := by
    rw [List.map_map];exact List.map_congr_left fun p hp => (fm p hp).2.2.1
   have hnd : (namesOf (ps.map F)).Nodup := ren_nodup hhd hpf (fun p hp x hx => hf x (by simp; exact .inr ⟨p, hp, hx⟩)) (pw_nodup (rise_names hK));have e := ren_op m n;have hren : ren m n = n := (by unfold ren looksB; simp [h6]);refine ⟨ren m n :: (sortN (ps.map F)).flatten, ?_, ?_, ?_, rfl, ?_⟩
   · rw [movGo_any m true k n fun p hp => ⟨_, hex p hp⟩, em];simp only [h6, if_true];rw [if_pos hnd]
   · exact .rcd' (ren_shapedV hm hs) (by omega) (by rw [e.2.1, hn, (sortN_perm _).length_eq, List.length_map]) (fun p hp => hvq p ((sortN_perm _).mem_iff.1 hp)) (exk_rise (nodup_rise heq hnd))
   · rw [List.length_cons, List.length_cons, (sortN_perm _).flatten.length_eq, hfl]
   · rw [movGo_any (backM m) true k _ fun q hq => ⟨_, heq q ((sortN_perm _).mem_iff.1 hq)⟩];have gb : ∀ q ∈ sortN (ps.map F), ∃ p ∈ ps, q = F p := fun q hq => by
      obtain ⟨p, hp, rfl⟩ := List.mem_map.1 ((sortN_perm _).mem_iff.1 hq); exact ⟨p, hp, rfl⟩
     rw [allSome_of _ _ (fun q hq => by obtain ⟨p, hp, rfl⟩ := gb q hq; exact ⟨p, (fm p hp).2.2.2⟩)];generalize hG : (fun q => (movGo (backM m) true k q).getD default) = G;have hgf : (ps.map F).map G = ps := by
      rw [List.map_map];refine map_id ps fun p hp => ?_;show G (F p) = p;rw [← hG];simp [(fm p hp).2.2.2]
     have hpG : ((sortN (ps.map F)).map G).Perm ps := ((sortN_perm _).map G).trans (List.Perm.of_eq hgf);obtain ⟨b1, b2⟩ := sortN_of hK hpG;simp only [e.1, h6, if_true];rw [if_pos b1, b2, hren];have : ren (backM m) n = n := (by unfold ren looksB; simp [h6]);rw [this]
def movV (m : Mv) (v : List Nd) : Option (List Nd) := movGo m true v.length v
end Go.Proofs.YtpheiojmcafolaaGreatDoor
