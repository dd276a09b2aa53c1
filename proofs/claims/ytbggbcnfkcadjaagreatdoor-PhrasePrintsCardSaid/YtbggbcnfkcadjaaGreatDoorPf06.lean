/-
  A REGION THAT DRAWS ITS ORDER, walked in the order of the text: reads of cells that one condition S on the world gives; calls that keep S and that come up alone. A REGION THAT DRAWS ITS ORDER, walked in the order of the text: an append to a row of the call's own that comes up alone.
  A REGION THAT DRAWS ITS ORDER, walked in an order of one's own: the reads that one condition S on the world gives first, then the calls that come up alone.
  THE WALKS: the parser of words: is the next word this one?
  THE WALKS: the parser of words: is, take, need, kind, word.
  THE WALKS: nodes with their parts; what a parser owes.
  THE WALKS: the parser's state; (*parser).whole.
  THE WALKS: (*parser).set: parts collected in a row.
-/
import Derived.Deep.RegionHeld3
import Derived.KernelRfl
import Derived.Maps.AppendAt
import Derived.Laws.OwnMore
import Derived.Laws.AppendOwnNone
import Derived.Test.YtbggbcnfkcadjaaGreatDoorPf03
import Derived.Test.YtbggbcnfkcadjaaGreatDoorPf05
import Derived.Lib.Hide
import Derived.BigQuiet
import Derived.Deep.LoopGhost
namespace Go.Proofs.YtbggbcnfkcadjaaGreatDoor
section
variable {P : Program} {ops : Array Oper} {Q : Exit → Act → World → Prop} {S : World → Prop}
def pre (n k : Nat) : Array Bool := (List.replicate k true ++ List.replicate (n - k) false).toArray
theorem pre_size {n k : Nat} (h : k ≤ n) : (pre n k).size = n := by simp [pre]; omega
theorem pre_get {n k : Nat} (h : k ≤ n) (i : Nat) (hi : i < n) : (pre n k)[i]'(by rw [pre_size h]; exact hi) = decide (i < k) := by
 simp only [pre, List.getElem_toArray]
 by_cases hik : i < k
 · rw [List.getElem_append_left (by simpa using hik)]; simp [hik]
 · rw [List.getElem_append_right (by simpa using hik)]; simp [hik]
theorem pre_set {n k : Nat} (h : k < n) : (pre n k).setIfInBounds k true = pre n (k + 1) := by
 apply Array.ext
 · rw [Array.size_setIfInBounds, pre_size (by omega), pre_size (by omega)]
 · intro i h1 h2
   rw [pre_size (by omega)] at h2
   rw [Array.getElem_setIfInBounds, pre_get (by omega) i h2, pre_get (by omega) i h2]
   · by_cases hik : k = i
     · subst hik; simp
     · simp [hik]; omega
   · rw [pre_size (by omega)]; exact h2
theorem pre_zero (n : Nat) : Array.replicate n false = pre n 0 := by simp [pre]
def heldOk (ops : Array Oper) (fl : List Bool) : Bool :=
 Region.noSelect ops && (Region.ready .any ops (pre ops.size ops.size)).isEmpty && fl.length == ops.size &&
 (List.range ops.size).all fun k => match fl[k]? with
   | some true => Region.ready .any ops (pre ops.size k) == [k]
   | _ => Region.free .any ops (pre ops.size k) k && (Region.ready .any ops (pre ops.size k)).contains k
def wpHd (P : Program) (ops : Array Oper) (Q : Exit → Act → World → Prop) (S : World → Prop) : List (Oper × Bool) → Act → World → Prop
 | [], a, w => Q .normal a w
 | (o, false) :: rest, a, w => ∃ v, YieldsIf P ops S o v a ∧ wpHd P ops Q S rest (a.put o.dst v) w
 | (o, true) :: rest, a, w => ∀ K : Act → World → Prop, (∀ a w, S w → wpHd P ops Q S rest a w → K a w) → if Region.wanted o (yielded ops a.tmps) = true then Oper.wp P o a w K Q else K (a.put o.dst undef) w
theorem hd_nil {a : Act} {w : World} (h : Q .normal a w) : wpHd P ops Q S [] a w := h
theorem hd_take {o : Oper} {v : Value} {rest : List (Oper × Bool)} {a : Act} {w : World} (hw : Region.wanted o (yielded ops a.tmps) = true)
   (hy : ∀ w, S w → (execOp a.eval o).run P w = .ok (.value v) w) (h : wpHd P ops Q S rest (a.put o.dst v) w) : wpHd P ops Q S ((o, false) :: rest) a w :=
 ⟨v, .inl ⟨hw, hy⟩, h⟩
theorem hd_skip {o : Oper} {rest : List (Oper × Bool)} {a : Act} {w : World} (hw : Region.wanted o (yielded ops a.tmps) = false)
   (h : wpHd P ops Q S rest (a.put o.dst undef) w) : wpHd P ops Q S ((o, false) :: rest) a w := ⟨undef, .inr ⟨hw, rfl⟩, h⟩
theorem hd_call {o : Oper} {rest : List (Oper × Bool)} {a : Act} {w : World}
   (h : ∀ K : Act → World → Prop, (∀ a w, S w → wpHd P ops Q S rest a w → K a w) → if Region.wanted o (yielded ops a.tmps) = true then Oper.wp P o a w K Q else K (a.put o.dst undef) w) :
   wpHd P ops Q S ((o, true) :: rest) a w := h
theorem any_of_hd {l : List Oper} {fl : List Bool} (hok : heldOk l.toArray fl = true) (hQ : ∀ c (d : Tmp) v a w, Q (.panic c) (Act.put a (some d) v) w → Q (.panic c) a w) :
   ∀ (m k : Nat) (a : Act) (w : World), k + m = l.length → S w → wpHd P l.toArray Q S ((l.zip fl).drop k) a w → wpAnyH P .any l.toArray Q S m (pre l.length k) a w := by
 have hok' := hok
 unfold heldOk at hok'
 simp only [Bool.and_eq_true, List.all_eq_true, List.mem_range, List.size_toArray, beq_iff_eq, List.isEmpty_iff] at hok'
 obtain ⟨⟨⟨hsel, hend⟩, hlen⟩, hall⟩ := hok'
 intro m
 induction m with
 | zero =>
   intro k a w hk _ h
   obtain rfl : k = l.length := by omega
   rw [List.drop_eq_nil_of_le (by rw [List.length_zip]; omega)] at h
   exact ⟨hend, h⟩
 | succ m ih =>
   intro k a w hk hS h
   have hkl : k < l.length := by omega
   have hkf : k < fl.length := by omega
   rw [List.drop_eq_getElem_cons (by simp; omega)] at h
   simp only [List.getElem_zip] at h
   have hi : l.toArray[k]? = some l[k] := by simp [hkl]
   have hc := hall k hkl
   rw [List.getElem?_eq_getElem hkf] at hc
   cases hf : fl[k] with
   | false =>
     rw [hf] at h hc
     obtain ⟨v, hy, hr⟩ := h
     simp only [Bool.and_eq_true] at hc
     exact wpAnyH_take hi hsel hc.1 hc.2 (fun c a w q => by
       cases hd : l[k].dst with
       | none => rw [hd] at q; exact q
       | some d => rw [hd] at q; exact hQ c _ _ a w q) hy hS (by rw [pre_set hkl]; exact ih (k + 1) _ w (by omega) hS hr)
   | true =>
     rw [hf] at h hc
     have hc : Region.ready .any l.toArray (pre l.length k) = [k] := by simpa using hc
     refine wpAnyH_ready hc (by simp) (AllReadyH.cons hi (fun K' hK => h K' (fun a' w' hS' hr => hK.out a' w' hS' (fun _ => ?_))) AllReadyH.nil)
     rw [pre_set hkl]
     exact ih (k + 1) a' w' (by omega) hS' hr
theorem wp_region_hd {l : List Oper} (fl : List Bool) {id : Nat} {a : Act} {w : World} (hm : P.follows .mixedOrders = true) (hok : heldOk l.toArray fl = true)
   (hQ : ∀ c (d : Tmp) v a w, Q (.panic c) (Act.put a (some d) v) w → Q (.panic c) a w) (hS : S w.drew) (h : S w.drew → wpHd P l.toArray Q S (l.zip fl) a w.drew) : (Code.region id l.toArray true).wp P Q a w :=
 wp_region_held_drew (S := S) hm hS (fun _ => by
   rw [List.size_toArray, pre_zero]
   exact any_of_hd hok hQ l.length 0 a w.drew (by omega) hS (by simpa using h hS))
end
end Go.Proofs.YtbggbcnfkcadjaaGreatDoor
namespace Go.Proofs.YtbggbcnfkcadjaaGreatDoor
section
variable {P : Program} {ops : Array Oper} {Q : Exit → Act → World → Prop} {S : World → Prop}
end
theorem run_append_zero {P : Program} {w : World} (base : Nat) (t ty e : TypeId) (i : TypeInfo) (size : Nat) (ht : P.underlying t = some (.slice e)) (hi : P.info? e = some i)
   (v : Value) (n : Nat) (xs : List Value) (hown : w.ownsRow base e size v n xs) (c : Nat) :
   (Builtin.append_ #[t, t] ty #[v, .slice none 0 c]).run P w = .ok v w := by
 rcases hown.2 with ⟨rfl, rfl⟩ | ⟨g, cap, cur, rfl, _, _, hnc, _⟩
 · simp [Builtin.append_, run_underlying ht, sizeOf, typeInfo, hi, Builtin.lenOf, Builtin.firstCells]
 · simp [Builtin.append_, run_underlying ht, sizeOf, typeInfo, hi, Builtin.lenOf, Builtin.firstCells, hnc, storeCells]
end Go.Proofs.YtbggbcnfkcadjaaGreatDoor
namespace Go.Proofs.YtbggbcnfkcadjaaGreatDoor
section
variable {P : Program} {ops : Array Oper} {Q : Exit → Act → World → Prop} {S : World → Prop}
def ordOk (ops : Array Oper) : List (Nat × Bool) → Array Bool → Bool
 | [], d => (Region.ready .any ops d).isEmpty
 | (i, true) :: r, d => (Region.ready .any ops d == [i]) && ordOk ops r (d.setIfInBounds i true)
 | (i, false) :: r, d => Region.free .any ops d i && (Region.ready .any ops d).contains i && ordOk ops r (d.setIfInBounds i true)
def ordOps (l : List Oper) (L : List (Nat × Bool)) : List (Oper × Bool) := L.filterMap fun p => (l[p.1]?).map fun o => (o, p.2)
theorem any_of_ord {l : List Oper} (hsel : Region.noSelect l.toArray = true) (hQ : ∀ c (d : Tmp) v a w, Q (.panic c) (Act.put a (some d) v) w → Q (.panic c) a w) :
   ∀ (L : List (Nat × Bool)) (d : Array Bool) (a : Act) (w : World), (∀ p ∈ L, p.1 < l.length) → ordOk l.toArray L d = true → S w → wpHd P l.toArray Q S (ordOps l L) a w → wpAnyH P .any l.toArray Q S L.length d a w
 | [], d, a, w, _, hok, _, h => ⟨by simpa [ordOk] using hok, h⟩
 | (i, fl) :: r, d, a, w, hL, hok, hS, h => by
   have hil : i < l.length := hL (i, fl) (by simp)
   have hi : l.toArray[i]? = some l[i] := by simp [hil]
   have hL' : ∀ p ∈ r, p.1 < l.length := fun p hp => hL p (by simp [hp])
   have hc : ordOps l ((i, fl) :: r) = (l[i], fl) :: ordOps l r := by simp [ordOps, hil]
   rw [hc] at h
   cases fl with
   | false =>
     simp only [ordOk, Bool.and_eq_true] at hok
     obtain ⟨v, hy, hr⟩ := h
     exact wpAnyH_take hi hsel hok.1.1 hok.1.2 (fun c a w q => by
       cases hd : l[i].dst with
       | none => rw [hd] at q; exact q
       | some d => rw [hd] at q; exact hQ c _ _ a w q) hy hS (any_of_ord hsel hQ r _ _ w hL' hok.2 hS hr)
   | true =>
     simp only [ordOk, Bool.and_eq_true, beq_iff_eq] at hok
     refine wpAnyH_ready hok.1 (by simp) (AllReadyH.cons hi (fun K' hK => h K' (fun a' w' hS' hr => hK.out a' w' hS' (fun _ => ?_))) AllReadyH.nil)
     exact any_of_ord hsel hQ r _ a' w' hL' hok.2 hS' hr
def ordAll (ops : Array Oper) (L : List (Nat × Bool)) : Bool := Region.noSelect ops && L.all (fun p => decide (p.1 < ops.size)) && (L.length == ops.size) && ordOk ops L (Array.replicate ops.size false)
theorem wp_region_ord {l : List Oper} (L : List (Nat × Bool)) {id : Nat} {a : Act} {w : World} (hm : P.follows .mixedOrders = true) (hok : ordAll l.toArray L = true)
   (hQ : ∀ c (d : Tmp) v a w, Q (.panic c) (Act.put a (some d) v) w → Q (.panic c) a w) (hS : S w.drew) (h : S w.drew → wpHd P l.toArray Q S (ordOps l L) a w.drew) : (Code.region id l.toArray true).wp P Q a w :=
 wp_region_held_drew (S := S) hm hS (fun _ => by
   unfold ordAll at hok
   simp only [Bool.and_eq_true, beq_iff_eq, List.all_eq_true, decide_eq_true_eq] at hok
   obtain ⟨⟨⟨h1, h2⟩, h3⟩, h4⟩ := hok
   have h5 := any_of_ord (P := P) (S := S) h1 hQ L (Array.replicate l.toArray.size false) a w.drew (fun p hp => by have := h2 p hp; simpa using this) h4 hS (h hS)
   rw [h3] at h5
   exact h5)
end
end Go.Proofs.YtbggbcnfkcadjaaGreatDoor
namespace Go.Proofs.YtbggbcnfkcadjaaGreatDoor
set_option maxRecDepth 100000
open Go.RowKit Go.Sort
structure Px where
 pb : Nat
 A : Option Addr
 c : Nat
 ts : List Tk
def Px.cells (x : Px) (i : Nat) : Array Value := #[.slice x.A x.ts.length x.c, .int .i64 i]
structure GlC (w : World) : Prop where
 syn : ∃ v, w.cell? ⟨7, 0, none⟩ = some v ∧ (v = .nilIface ∨ ∃ te pe, v = .iface te pe)
 ran : ∃ v, w.cell? ⟨8, 0, none⟩ = some v ∧ (v = .nilIface ∨ ∃ te pe, v = .iface te pe)
theorem GlC.keep {w w' : World} (h : GlC w) (hk : ∀ p : Addr, p.block < 9 → w'.cell? p = w.cell? p) : GlC w' :=
 ⟨by obtain ⟨v, h1, h2⟩ := h.syn; exact ⟨v, (hk _ (by decide)).trans h1, h2⟩, by obtain ⟨v, h1, h2⟩ := h.ran; exact ⟨v, (hk _ (by decide)).trans h1, h2⟩⟩
structure PxIn (x : Px) (w : World) : Prop where
 sl : TkSl w x.pb x.A x.ts
 len : x.ts.length ≤ 300
 le : x.ts.length ≤ x.c
 max : x.c ≤ 9223372036854775807
 tk : ∀ t ∈ x.ts, TkS t
 gl : GlC w
 gb : 9 ≤ x.pb
abbrev PxB (x : Px) (w : World) (i : Nat) : Prop := Blk w x.pb 71 (x.cells i)
theorem PxIn.keep {x : Px} {w w' : World} {B : Nat} (h : PxIn x w) (ho : Only B x.pb w w') (hB : x.pb ≤ B) : PxIn x w' :=
 ⟨h.sl.keep fun p hp => ho.cell (by omega) (by omega), h.len, h.le, h.max, h.tk, h.gl.keep fun p hp => by have := h.gb; exact ho.cell (by omega) (by omega), h.gb⟩
theorem PxIn.below {x : Px} {w w' : World} (h : PxIn x w) (hb : RowKit.Below w.heap.size w w') (hp : x.pb < w.heap.size) : PxIn x w' := h.keep (Only.of_below hb (Nat.le_refl _)) (by omega)
def wrongP (k : Int) (i : Nat) : List PanicEntry := [{ v := .iface 68 (.agg #[.int .i64 k, .int .i64 i]), recovered := false }]
def kdR : List Tk → Int
 | [] => 0
 | t :: _ => t.kind
theorem drop_cons {ts : List Tk} {i : Nat} {t : Tk} (h : ts[i]? = some t) : ts.drop i = t :: ts.drop (i + 1) := by
 obtain ⟨hi, rfl⟩ := List.getElem?_eq_some_iff.1 h
 exact List.drop_eq_getElem_cons hi
theorem PxB.lt {x : Px} {w : World} {i : Nat} (h : PxB x w i) : x.pb < w.heap.size := Blk.lt h
theorem PxIn.at_ {x : Px} {w : World} (h : PxIn x w) {i : Nat} {t : Tk} (ht : x.ts[i]? = some t) : ∃ b o, x.A = some ⟨b, o, none⟩ ∧ b < x.pb ∧ TkAt w b (o + i * 3) t := tkSl_at h.sl ht
end Go.Proofs.YtbggbcnfkcadjaaGreatDoor
namespace Go.Proofs.YtbggbcnfkcadjaaGreatDoor
set_option maxRecDepth 100000
open Go.RowKit Go.Sort
theorem PxB.below {x : Px} {w w' : World} {i : Nat} (h : PxB x w i) (hb : RowKit.Below w.heap.size w w') : PxB x w' i := Blk.below h hb h.lt
theorem PxB.step {x : Px} {w : World} {i : Nat} (h : PxB x w i) : PxB x (w.setCell ⟨x.pb, 1, none⟩ (.int .i64 ((i : Int) + 1))) (i + 1) := Blk.set h 1 _
end Go.Proofs.YtbggbcnfkcadjaaGreatDoor
namespace Go.Proofs.YtbggbcnfkcadjaaGreatDoor
set_option maxRecDepth 100000
open Go.RowKit Go.Sort
structure Exm (B : Nat) (W : World) (m : NsM) : Prop where
 good : NsGood W W.heap.size m
 far : ∀ b o, m.A = some ⟨b, o, none⟩ → B ≤ b
 ne : m.e ≠ []
theorem Exm.only {B pb S : Nat} {W W' : World} {m : NsM} (h : Exm B W m) (ho : Only S pb W W') (hS : W.heap.size ≤ S) (hB : pb < B) : Exm B W' m :=
 ⟨⟨fun hne => by
   obtain ⟨b, o, e, hb, hc⟩ := h.good.sl hne
   have hf := h.far b o e
   have k : ∀ i, W'.cell? ⟨b, i, none⟩ = W.cell? ⟨b, i, none⟩ := fun i => ho.cell (p := ⟨b, i, none⟩) (by simp; omega) (by simp; omega)
   exact ⟨b, o, e, Nat.lt_of_lt_of_le hb ho.size, fun i x hx => by
     obtain ⟨q0, q1, q2, q3⟩ := hc i x hx
     exact ⟨(k _).trans q0, (k _).trans q1, (k _).trans q2, (k _).trans q3⟩⟩, h.good.le, h.good.max⟩, h.far, h.ne⟩
theorem Exm.below {B : Nat} {W W' : World} {m : NsM} (h : Exm B W m) (hb : RowKit.Below W.heap.size W W') : Exm B W' m := ⟨h.good.later hb, h.far, h.ne⟩
theorem Exm.less {B B' : Nat} {W : World} {m : NsM} (h : Exm B W m) (hB : B' ≤ B) : Exm B' W m := ⟨h.good, fun b o e => Nat.le_trans hB (h.far b o e), h.ne⟩
def PaPost (x : Px) (w : World) (q : Pr) (r : Ending) (w' : World) : Prop := Only w.heap.size x.pb w w' ∧ match q with
 | .ok e rest => ∃ A c j, r = .returned (.slice A e.length c) ∧ Exm w.heap.size w' ⟨A, c, e⟩ ∧ rest = x.ts.drop j ∧ j ≤ x.ts.length ∧ PxB x w' j
 | .bad k rest => ∃ j, r = .panicked (wrongP k j) ∧ rest = x.ts.drop j ∧ j ≤ x.ts.length
def Does (x : Px) (fn : Nat) (p : List Tk → Pr) : Prop := ∀ (w : World) (i : Nat), PxIn x w → PxB x w i → i ≤ x.ts.length → (∀ r, p (x.ts.drop i) ≠ .bad 0 r) → Calls Tryz.prog fn #[.pointer (some ⟨x.pb, 0, none⟩)] w (PaPost x w (p (x.ts.drop i)))
theorem PaPost.up {x : Px} {w w1 : World} {q : Pr} {r : Ending} {w' : World} (h : PaPost x w1 q r w') (ho : Only w.heap.size x.pb w w1) : PaPost x w q r w' := by
 obtain ⟨h1, h2⟩ := h
 refine ⟨ho.trans (h1.mono ho.size), ?_⟩
 cases q with
 | ok e rest =>
   obtain ⟨A, c, j, e1, e2, e3, e4, e5⟩ := h2
   exact ⟨A, c, j, e1, e2.less ho.size, e3, e4, e5⟩
 | bad k rest => exact h2
theorem PaPost.no {x : Px} {w w' : World} {k : Int} {j : Nat} {rest : List Tk} (ho : Only w.heap.size x.pb w w') (hj : j ≤ x.ts.length) (hr : rest = x.ts.drop j) : PaPost x w (.bad k rest) (.panicked (wrongP k j)) w' := ⟨ho, j, rfl, hr, hj⟩
theorem tail_drop' (ts : List Tk) (i : Nat) : (ts.drop i).tail = ts.drop (i + 1) := by rw [List.tail_drop]
end Go.Proofs.YtbggbcnfkcadjaaGreatDoor
namespace Go.Proofs.YtbggbcnfkcadjaaGreatDoor
set_option maxRecDepth 100000
open Go.RowKit Go.Sort
theorem Exm.on {x : Px} {w W W' : World} {m : NsM} (h : Exm w.heap.size W m) (ho : Only W.heap.size x.pb W W') (hlt : x.pb < w.heap.size) : Exm w.heap.size W' m := h.only ho (Nat.le_refl _) hlt
end Go.Proofs.YtbggbcnfkcadjaaGreatDoor
namespace Go.Proofs.YtbggbcnfkcadjaaGreatDoor
set_option maxRecDepth 100000
open Go.RowKit Go.Sort
theorem own_sl {w : World} {base k : Nat} {e : TypeId} {v : Value} {n : Nat} {xs : List Value} (h : w.ownsRow base e k v n xs) : ∃ A c, v = .slice A n c ∧ n ≤ c := by
 rcases h.2 with ⟨hv, h0⟩ | ⟨g, cap, cur, hv, _, _, h1, _⟩
 · exact ⟨none, 0, by rw [hv, h0], by omega⟩
 · exact ⟨some ⟨g, 0, none⟩, cap, hv, h1⟩
theorem se_end {g : Nat} {ps : List (List Nd)} {ts : List Tk} {j : Nat} (h : hdS [93] (ts.drop j) = true) : pa (g + 1) (.se ps) (ts.drop j) = .ok (⟨5, ps.length, ⟨#[]⟩, ⟨#[]⟩⟩ :: ps.flatten) (ts.drop (j + 1)) := by
 show (if hdS [93] (ts.drop j) = true then _ else _) = _
 rw [if_pos h, tail_drop']
end Go.Proofs.YtbggbcnfkcadjaaGreatDoor
