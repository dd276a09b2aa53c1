/-
  A REGION THAT DRAWS ITS ORDER, walked in the order of the text: reads of cells that one condition S on the world gives; calls that keep S and that come up alone. A REGION THAT DRAWS ITS ORDER, walked in the order of the text: an append to a row of the call's own that comes up alone.
  A REGION THAT DRAWS ITS ORDER, walked in an order of one's own: the reads that one condition S on the world gives first, then the calls that come up alone.
  THE WALKS: the parser of words: is the next word this one?
  THE WALKS: the parser of words: is, take, need, kind, word.
  THE WALKS: nodes with their parts; what a parser owes.
  THE WALKS: the parser's state; (*parser).whole.
-/
import Derived.Deep.RegionHeld3
import Derived.KernelRfl
import Derived.Maps.AppendAt
import Derived.Laws.OwnMore
import Derived.Laws.AppendOwnNone
import Derived.Test.YtbggbcnfkcadjaaGreatDoorPe03
import Derived.Test.YtbggbcnfkcadjaaGreatDoorPe05
import Derived.Lib.Hide
import Derived.BigQuiet
namespace Go.Proofs.YtbggbcnfkcadjaaGreatDoor
section
variable {P : Program} {ops : Array Oper} {Q : Exit → Act → World → Prop} {S : World → Prop}
def pre (n k : Nat) : Array Bool := (List.replicate k true ++ List.replicate (n - k) false).toArray
def wpHd (P : Program) (ops : Array Oper) (Q : Exit → Act → World → Prop) (S : World → Prop) : List (Oper × Bool) → Act → World → Prop
 | [], a, w => Q .normal a w
 | (o, false) :: rest, a, w => ∃ v, YieldsIf P ops S o v a ∧ wpHd P ops Q S rest (a.put o.dst v) w
 | (o, true) :: rest, a, w => ∀ K : Act → World → Prop, (∀ a w, S w → wpHd P ops Q S rest a w → K a w) → if Region.wanted o (yielded ops a.tmps) = true then Oper.wp P o a w K Q else K (a.put o.dst undef) w
theorem hd_nil {a : Act} {w : World} (h : Q .normal a w) : wpHd P ops Q S [] a w := h
theorem hd_take {o : Oper} {v : Value} {rest : List (Oper × Bool)} {a : Act} {w : World} (hw : Region.wanted o (yielded ops a.tmps) = true)
   (hy : ∀ w, S w → (execOp a.eval o).run P w = .ok (.value v) w) (h : wpHd P ops Q S rest (a.put o.dst v) w) : wpHd P ops Q S ((o, false) :: rest) a w :=
 ⟨v, .inl ⟨hw, hy⟩, h⟩
theorem hd_skip {o : Oper} {rest : List (Oper × Bool)} {a : Act} {w : World} (hw : Region.wanted o (yielded ops a.tmps) = false)
   (h : wpHd P ops Q S rest (a.put o.dst undef) w) : wpHd P ops Q S ((o, false) :: rest) a w := ⟨undef, .inr ⟨hw, rfl⟩, h⟩
theorem hd_call {o : Oper} {rest : List (Oper × Bool)} {a : Act} {w : World}
   (h : ∀ K : Act → World → Prop, (∀ a w, S w → wpHd P ops Q S rest a w → K a w) → if Region.wanted o (yielded ops a.tmps) = true then Oper.wp P o a w K Q else K (a.put o.dst undef) w) :
   wpHd P ops Q S ((o, true) :: rest) a w := h
end
end Go.Proofs.YtbggbcnfkcadjaaGreatDoor
namespace Go.Proofs.YtbggbcnfkcadjaaGreatDoor
section
variable {P : Program} {ops : Array Oper} {Q : Exit → Act → World → Prop} {S : World → Prop}
end
theorem run_append_zero {P : Program} {w : World} (base : Nat) (t ty e : TypeId) (i : TypeInfo) (size : Nat) (ht : P.underlying t = some (.slice e)) (hi : P.info? e = some i)
   (v : Value) (n : Nat) (xs : List Value) (hown : w.ownsRow base e size v n xs) (c : Nat) :
   (Builtin.append_ #[t, t] ty #[v, .slice none 0 c]).run P w = .ok v w := by
 rcases hown.2 with ⟨rfl, rfl⟩ | ⟨g, cap, cur, rfl, _, _, hnc, _⟩
 · simp [Builtin.append_, run_underlying ht, sizeOf, typeInfo, hi, Builtin.lenOf, Builtin.firstCells]
 · simp [Builtin.append_, run_underlying ht, sizeOf, typeInfo, hi, Builtin.lenOf, Builtin.firstCells, hnc, storeCells]
end Go.Proofs.YtbggbcnfkcadjaaGreatDoor
namespace Go.Proofs.YtbggbcnfkcadjaaGreatDoor
section
variable {P : Program} {ops : Array Oper} {Q : Exit → Act → World → Prop} {S : World → Prop}
def ordOk (ops : Array Oper) : List (Nat × Bool) → Array Bool → Bool
 | [], d => (Region.ready .any ops d).isEmpty
 | (i, true) :: r, d => (Region.ready .any ops d == [i]) && ordOk ops r (d.setIfInBounds i true)
 | (i, false) :: r, d => Region.free .any ops d i && (Region.ready .any ops d).contains i && ordOk ops r (d.setIfInBounds i true)
def ordOps (l : List Oper) (L : List (Nat × Bool)) : List (Oper × Bool) := L.filterMap fun p => (l[p.1]?).map fun o => (o, p.2)
theorem any_of_ord {l : List Oper} (hsel : Region.noSelect l.toArray = true) (hQ : ∀ c (d : Tmp) v a w, Q (.panic c) (Act.put a (some d) v) w → Q (.panic c) a w) :
   ∀ (L : List (Nat × Bool)) (d : Array Bool) (a : Act) (w : World), (∀ p ∈ L, p.1 < l.length) → ordOk l.toArray L d = true → S w → wpHd P l.toArray Q S (ordOps l L) a w → wpAnyH P .any l.toArray Q S L.length d a w
 | [], d, a, w, _, hok, _, h => ⟨by simpa [ordOk] using hok, h⟩
 | (i, fl) :: r, d, a, w, hL, hok, hS, h => by
   have hil : i < l.length := hL (i, fl) (by simp)
   have hi : l.toArray[i]? = some l[i] := by simp [hil]
   have hL' : ∀ p ∈ r, p.1 < l.length := fun p hp => hL p (by simp [hp])
   have hc : ordOps l ((i, fl) :: r) = (l[i], fl) :: ordOps l r := by simp [ordOps, hil]
   rw [hc] at h
   cases fl with
   | false =>
     simp only [ordOk, Bool.and_eq_true] at hok
     obtain ⟨v, hy, hr⟩ := h
     exact wpAnyH_take hi hsel hok.1.1 hok.1.2 (fun c a w q => by
       cases hd : l[i].dst with
       | none => rw [hd] at q; exact q
       | some d => rw [hd] at q; exact hQ c _ _ a w q) hy hS (any_of_ord hsel hQ r _ _ w hL' hok.2 hS hr)
   | true =>
     simp only [ordOk, Bool.and_eq_true, beq_iff_eq] at hok
     refine wpAnyH_ready hok.1 (by simp) (AllReadyH.cons hi (fun K' hK => h K' (fun a' w' hS' hr => hK.out a' w' hS' (fun _ => ?_))) AllReadyH.nil)
     exact any_of_ord hsel hQ r _ a' w' hL' hok.2 hS' hr
def ordAll (ops : Array Oper) (L : List (Nat × Bool)) : Bool := Region.noSelect ops && L.all (fun p => decide (p.1 < ops.size)) && (L.length == ops.size) && ordOk ops L (Array.replicate ops.size false)
theorem wp_region_ord {l : List Oper} (L : List (Nat × Bool)) {id : Nat} {a : Act} {w : World} (hm : P.follows .mixedOrders = true) (hok : ordAll l.toArray L = true)
   (hQ : ∀ c (d : Tmp) v a w, Q (.panic c) (Act.put a (some d) v) w → Q (.panic c) a w) (hS : S w.drew) (h : S w.drew → wpHd P l.toArray Q S (ordOps l L) a w.drew) : (Code.region id l.toArray true).wp P Q a w :=
 wp_region_held_drew (S := S) hm hS (fun _ => by
   unfold ordAll at hok
   simp only [Bool.and_eq_true, beq_iff_eq, List.all_eq_true, decide_eq_true_eq] at hok
   obtain ⟨⟨⟨h1, h2⟩, h3⟩, h4⟩ := hok
   have h5 := any_of_ord (P := P) (S := S) h1 hQ L (Array.replicate l.toArray.size false) a w.drew (fun p hp => by have := h2 p hp; simpa using this) h4 hS (h hS)
   rw [h3] at h5
   exact h5)
end
end Go.Proofs.YtbggbcnfkcadjaaGreatDoor
namespace Go.Proofs.YtbggbcnfkcadjaaGreatDoor
set_option maxRecDepth 100000
open Go.RowKit Go.Sort
structure Px where
 pb : Nat
 A : Option Addr
 c : Nat
 ts : List Tk
def Px.cells (x : Px) (i : Nat) : Array Value := #[.slice x.A x.ts.length x.c, .int .i64 i]
structure GlC (w : World) : Prop where
 syn : ∃ v, w.cell? ⟨7, 0, none⟩ = some v ∧ (v = .nilIface ∨ ∃ te pe, v = .iface te pe)
 ran : ∃ v, w.cell? ⟨8, 0, none⟩ = some v ∧ (v = .nilIface ∨ ∃ te pe, v = .iface te pe)
theorem GlC.keep {w w' : World} (h : GlC w) (hk : ∀ p : Addr, p.block < 9 → w'.cell? p = w.cell? p) : GlC w' :=
 ⟨by obtain ⟨v, h1, h2⟩ := h.syn; exact ⟨v, (hk _ (by decide)).trans h1, h2⟩, by obtain ⟨v, h1, h2⟩ := h.ran; exact ⟨v, (hk _ (by decide)).trans h1, h2⟩⟩
structure PxIn (x : Px) (w : World) : Prop where
 sl : TkSl w x.pb x.A x.ts
 len : x.ts.length ≤ 300
 le : x.ts.length ≤ x.c
 max : x.c ≤ 9223372036854775807
 tk : ∀ t ∈ x.ts, TkS t
 gl : GlC w
 gb : 9 ≤ x.pb
abbrev PxB (x : Px) (w : World) (i : Nat) : Prop := Blk w x.pb 71 (x.cells i)
theorem PxIn.keep {x : Px} {w w' : World} {B : Nat} (h : PxIn x w) (ho : Only B x.pb w w') (hB : x.pb ≤ B) : PxIn x w' :=
 ⟨h.sl.keep fun p hp => ho.cell (by omega) (by omega), h.len, h.le, h.max, h.tk, h.gl.keep fun p hp => by have := h.gb; exact ho.cell (by omega) (by omega), h.gb⟩
theorem PxIn.below {x : Px} {w w' : World} (h : PxIn x w) (hb : RowKit.Below w.heap.size w w') (hp : x.pb < w.heap.size) : PxIn x w' := h.keep (Only.of_below hb (Nat.le_refl _)) (by omega)
def wrongP (k : Int) (i : Nat) : List PanicEntry := [{ v := .iface 68 (.agg #[.int .i64 k, .int .i64 i]), recovered := false }]
def kdR : List Tk → Int
 | [] => 0
 | t :: _ => t.kind
theorem drop_cons {ts : List Tk} {i : Nat} {t : Tk} (h : ts[i]? = some t) : ts.drop i = t :: ts.drop (i + 1) := by
 obtain ⟨hi, rfl⟩ := List.getElem?_eq_some_iff.1 h
 exact List.drop_eq_getElem_cons hi
theorem tok_at (b o n c k : Nat) (hk : k < n) (W : World) : (Instr.indexAt 23 (.slice (some ⟨b, o, none⟩) n c) (.int .i64 (k : Int))).run Tryz.prog W = .ok (.pointer (some ⟨b, o + k * 3, none⟩)) W := by
 go_simp
theorem tok_at1 (b o n c k : Nat) (hk : k + 1 < n) (W : World) : (Instr.indexAt 23 (.slice (some ⟨b, o, none⟩) n c) (.int .i64 ((k : Int) + 1))).run Tryz.prog W = .ok (.pointer (some ⟨b, o + (k + 1) * 3, none⟩)) W := by
 have := tok_at b o n c (k + 1) hk W
 rwa [show ((k + 1 : Nat) : Int) = (k : Int) + 1 from rfl] at this
theorem PxB.lt {x : Px} {w : World} {i : Nat} (h : PxB x w i) : x.pb < w.heap.size := Blk.lt h
theorem PxIn.at_ {x : Px} {w : World} (h : PxIn x w) {i : Nat} {t : Tk} (ht : x.ts[i]? = some t) : ∃ b o, x.A = some ⟨b, o, none⟩ ∧ b < x.pb ∧ TkAt w b (o + i * 3) t := tkSl_at h.sl ht
structure PhS (x : Px) (i j b o : Nat) (t : Tk) (W : World) : Prop where
 s0 : W.cell? ⟨x.pb, 0, none⟩ = some (.slice (some ⟨b, o, none⟩) x.ts.length x.c)
 s1 : W.cell? ⟨x.pb, 1, none⟩ = some (.int .i64 i)
 s2 : W.cell? ⟨b, o + j * 3, none⟩ = some (.int .i64 t.kind)
 s3 : W.cell? ⟨b, o + j * 3 + 1, none⟩ = some (.string t.s)
 s4 : W.cell? ⟨b, o + j * 3 + 2, none⟩ = some (.int .i64 t.at_)
theorem PhS.alloc {x : Px} {i j b o : Nat} {t : Tk} {W : World} (h : PhS x i j b o t W) (hx : x.pb < W.heap.size) (hb : b < W.heap.size) (O : Obj) : PhS x i j b o t (W.alloc O) := by
 have a : ∀ {b o' : Nat} {v : Value}, b < W.heap.size → W.cell? ⟨b, o', none⟩ = some v → (W.alloc O).cell? ⟨b, o', none⟩ = some v := fun hb h => by
   rw [← h]; exact World.cell?_alloc_past (w := W) O _ _ hb
 exact ⟨a hx h.s0, a hx h.s1, a hb h.s2, a hb h.s3, a hb h.s4⟩
set_option maxHeartbeats 1600000 in
theorem ph_fail (x : Px) (i : Nat) (w : World) (hB : PxB x w i) : Calls Tryz.prog 31 #[.pointer (some ⟨x.pb, 0, none⟩)] w fun r w' => r = .panicked (wrongP 1 i) ∧ w' = w := by
 have k1 : w.cell? ⟨x.pb, 1, none⟩ = some (.int .i64 i) := hB.cell 1
 have HB := Lib.hid hB
 clear hB
 go_enter Tryz.func31, Tryz.ntmps31
 go_wp2_with fail
 exact ⟨rfl, rfl, rfl⟩
set_option maxHeartbeats 3200000 in
theorem ph_ahead0 (x : Px) (i : Nat) (s : ByteArray) (l : List UInt8) (hl : s.toList = l) (w : World) (hx : PxIn x w) (hB : PxB x w i) (hi : i ≤ x.ts.length) :
   Calls Tryz.prog 59 #[.pointer (some ⟨x.pb, 0, none⟩), .int .i64 0, .string s] w fun r w' => r = .returned (.bool (hdW l (x.ts.drop i))) ∧ RowKit.Below w.heap.size w w' := by
 have k0 : w.cell? ⟨x.pb, 0, none⟩ = some (.slice x.A x.ts.length x.c) := hB.cell 0
 have k1 : w.cell? ⟨x.pb, 1, none⟩ = some (.int .i64 i) := hB.cell 1
 have hpb := hB.lt
 have hlen := hx.len
 have HX := Lib.hid hx
 have HB := Lib.hid hB
 clear hB hx
 by_cases hlt : i < x.ts.length
 · obtain ⟨t, ht⟩ : ∃ t, x.ts[i]? = some t := ⟨_, List.getElem?_eq_getElem hlt⟩
   obtain ⟨b, o, hA, hb, d0, d1, d2⟩ := HX.out.at_ ht
   have HR : Hid (hdW l (x.ts.drop i) = ((t.kind == 1 || t.kind == 5) && (t.s.toList == l))) := by show _ = _; rw [drop_cons ht]; rfl
   have HL := Lib.hid hl
   rw [HR.out]
   rw [hA] at k0
   have ti := tok_at b o x.ts.length x.c i hlt
   have tg : decide ((x.ts.length : Int) ≤ (i : Int)) = false := by simp; omega
   have hbw : b < w.heap.size := Nat.lt_trans hb hpb
   have hi64 : IntKind.wrap .i64 (i : Int) = (i : Int) := IntWalk.i64_in _ (by omega)
   have hS : ∀ n, PhS x i i b o t (w.drewN n) := fun _ => ⟨k0, k1, d0, d1, d2⟩
   have HS := Lib.hid hS
   have HW0 := Lib.hid (fun n => below_drewN (RowKit.Below.refl w.heap.size w) n)
   clear ht hl HR hS d0 d1 d2
   go_enter Tryz.func59, Tryz.ntmps59
   go_wp2_with fail
   go_quiet (fail)
   go_wp2_with fail
   have HS1 := Lib.hid (HS.out nq)
   have HW := Lib.hid (HW0.out nq)
   have hp2 : x.pb < (w.drewN nq).heap.size := hpb
   have hb2 : b < (w.drewN nq).heap.size := hbw
   generalize hw2 : w.drewN nq = w2 at HS1 HW hp2 hb2 ⊢
   have HS0 := Lib.hid (HS1.out.alloc hp2 hb2)
   refine wp_region_ord (S := PhS x i i b o t) [(0, false), (1, false), (2, false), (3, false), (4, false), (5, false), (6, false), (7, false), (8, false), (9, false), (10, false), (11, false), (12, true), (13, true)] (by kernel_rfl) (by kernel_rfl) (fun _ _ _ _ _ h => h) ⟨HS1.out.s0, HS1.out.s1, HS1.out.s2, HS1.out.s3, HS1.out.s4⟩ (fun hW' => ?_)
   simp only [ordOps, List.filterMap_cons, List.filterMap_nil, List.getElem?_cons_zero, List.getElem?_cons_succ, Option.map_some]
   (repeat (first | (refine hd_take (v := ?_) (by rfl) ?_ ?_; rotate_left; (focus (intro W hW; obtain ⟨s0, s1, s2, s3, s4⟩ := hW; go_simp; try with_reducible rfl)); simp only [Act.put, List.setIfInBounds_toArray, List.set_cons_zero, List.set_cons_succ]) | (refine hd_skip (by rfl) ?_; simp only [Act.put, List.setIfInBounds_toArray, List.set_cons_zero, List.set_cons_succ])))
   clear hW'
   refine hd_call (fun K hK => ?_)
   go_simp
   refine hK _ _ (by first | exact HS0.out _ | exact ⟨(HS0.out _).s0, (HS0.out _).s1, (HS0.out _).s2, (HS0.out _).s3, (HS0.out _).s4⟩) ?_
   clear hK K
   refine hd_call (fun K hK => ?_)
   go_simp
   refine hK _ _ (by first | exact HS0.out _ | exact ⟨(HS0.out _).s0, (HS0.out _).s1, (HS0.out _).s2, (HS0.out _).s3, (HS0.out _).s4⟩) ?_
   clear hK K
   refine hd_nil ?_
   go_wp2_with fail
   all_goals
     go_ret
     refine ⟨ret_bool (by rw [← HL.out]; simp [*]), HW.out.trans (RowKit.Below.mono (by (repeat (first | assumption | exact Below.refl _ _ | apply Below.drew | apply below_drewN | (refine Below.alloc ?_ (by first | exact Nat.le_refl _ | omega | (simp; done) | (simp; omega)) _)))) HW.out.size)⟩
 · have HR : Hid (hdW l (x.ts.drop i) = false) := by show _ = _; rw [List.drop_eq_nil_of_le (by omega)]; rfl
   rw [HR.out]
   have tg : decide ((x.ts.length : Int) ≤ (i : Int)) = true := by simp; omega
   have hi64 : IntKind.wrap .i64 (i : Int) = (i : Int) := IntWalk.i64_in _ (by omega)
   go_enter Tryz.func59, Tryz.ntmps59
   go_wp2_with fail
   go_quiet (fail)
   go_wp2_with fail
   go_ret
   exact ⟨rfl, below_drewN (RowKit.Below.refl _ _) _⟩
set_option maxHeartbeats 3200000 in
theorem ph_ahead1 (x : Px) (i : Nat) (s : ByteArray) (l : List UInt8) (hl : s.toList = l) (w : World) (hx : PxIn x w) (hB : PxB x w i) (hi : i ≤ x.ts.length) :
   Calls Tryz.prog 59 #[.pointer (some ⟨x.pb, 0, none⟩), .int .i64 1, .string s] w fun r w' => r = .returned (.bool (hdW l (x.ts.drop (i + 1)))) ∧ RowKit.Below w.heap.size w w' := by
 have k0 : w.cell? ⟨x.pb, 0, none⟩ = some (.slice x.A x.ts.length x.c) := hB.cell 0
 have k1 : w.cell? ⟨x.pb, 1, none⟩ = some (.int .i64 i) := hB.cell 1
 have hpb := hB.lt
 have hlen := hx.len
 have HX := Lib.hid hx
 have HB := Lib.hid hB
 clear hB hx
 by_cases hlt : i + 1 < x.ts.length
 · obtain ⟨t, ht⟩ : ∃ t, x.ts[i + 1]? = some t := ⟨_, List.getElem?_eq_getElem hlt⟩
   obtain ⟨b, o, hA, hb, d0, d1, d2⟩ := HX.out.at_ ht
   have HR : Hid (hdW l (x.ts.drop (i + 1)) = ((t.kind == 1 || t.kind == 5) && (t.s.toList == l))) := by show _ = _; rw [drop_cons ht]; rfl
   have HL := Lib.hid hl
   rw [HR.out]
   rw [hA] at k0
   have ti := tok_at1 b o x.ts.length x.c i hlt
   have tg : decide ((x.ts.length : Int) ≤ (i : Int) + 1) = false := by simp; omega
   have hbw : b < w.heap.size := Nat.lt_trans hb hpb
   have hi64 : IntKind.wrap .i64 ((i : Int) + 1) = (i : Int) + 1 := IntWalk.i64_in _ (by omega)
   have hS : ∀ n, PhS x i (i + 1) b o t (w.drewN n) := fun _ => ⟨k0, k1, d0, d1, d2⟩
   have HS := Lib.hid hS
   have HW0 := Lib.hid (fun n => below_drewN (RowKit.Below.refl w.heap.size w) n)
   clear ht hl HR hS d0 d1 d2
   go_enter Tryz.func59, Tryz.ntmps59
   go_wp2_with fail
   go_quiet (fail)
   go_wp2_with fail
   have HS1 := Lib.hid (HS.out nq)
   have HW := Lib.hid (HW0.out nq)
   have hp2 : x.pb < (w.drewN nq).heap.size := hpb
   have hb2 : b < (w.drewN nq).heap.size := hbw
   generalize hw2 : w.drewN nq = w2 at HS1 HW hp2 hb2 ⊢
   have HS0 := Lib.hid (HS1.out.alloc hp2 hb2)
   refine wp_region_ord (S := PhS x i (i + 1) b o t) [(0, false), (1, false), (2, false), (3, false), (4, false), (5, false), (6, false), (7, false), (8, false), (9, false), (10, false), (11, false), (12, true), (13, true)] (by kernel_rfl) (by kernel_rfl) (fun _ _ _ _ _ h => h) ⟨HS1.out.s0, HS1.out.s1, HS1.out.s2, HS1.out.s3, HS1.out.s4⟩ (fun hW' => ?_)
   simp only [ordOps, List.filterMap_cons, List.filterMap_nil, List.getElem?_cons_zero, List.getElem?_cons_succ, Option.map_some]
   (repeat (first | (refine hd_take (v := ?_) (by rfl) ?_ ?_; rotate_left; (focus (intro W hW; obtain ⟨s0, s1, s2, s3, s4⟩ := hW; go_simp; try with_reducible rfl)); simp only [Act.put, List.setIfInBounds_toArray, List.set_cons_zero, List.set_cons_succ]) | (refine hd_skip (by rfl) ?_; simp only [Act.put, List.setIfInBounds_toArray, List.set_cons_zero, List.set_cons_succ])))
   clear hW'
   refine hd_call (fun K hK => ?_)
   go_simp
   refine hK _ _ (by first | exact HS0.out _ | exact ⟨(HS0.out _).s0, (HS0.out _).s1, (HS0.out _).s2, (HS0.out _).s3, (HS0.out _).s4⟩) ?_
   clear hK K
   refine hd_call (fun K hK => ?_)
   go_simp
   refine hK _ _ (by first | exact HS0.out _ | exact ⟨(HS0.out _).s0, (HS0.out _).s1, (HS0.out _).s2, (HS0.out _).s3, (HS0.out _).s4⟩) ?_
   clear hK K
   refine hd_nil ?_
   go_wp2_with fail
   all_goals
     go_ret
     refine ⟨ret_bool (by rw [← HL.out]; simp [*]), HW.out.trans (RowKit.Below.mono (by (repeat (first | assumption | exact Below.refl _ _ | apply Below.drew | apply below_drewN | (refine Below.alloc ?_ (by first | exact Nat.le_refl _ | omega | (simp; done) | (simp; omega)) _)))) HW.out.size)⟩
 · have HR : Hid (hdW l (x.ts.drop (i + 1)) = false) := by show _ = _; rw [List.drop_eq_nil_of_le (by omega)]; rfl
   rw [HR.out]
   have tg : decide ((x.ts.length : Int) ≤ (i : Int) + 1) = true := by simp; omega
   have hi64 : IntKind.wrap .i64 ((i : Int) + 1) = (i : Int) + 1 := IntWalk.i64_in _ (by omega)
   go_enter Tryz.func59, Tryz.ntmps59
   go_wp2_with fail
   go_quiet (fail)
   go_wp2_with fail
   go_ret
   exact ⟨rfl, below_drewN (RowKit.Below.refl _ _) _⟩
end Go.Proofs.YtbggbcnfkcadjaaGreatDoor
namespace Go.Proofs.YtbggbcnfkcadjaaGreatDoor
set_option maxRecDepth 100000
open Go.RowKit Go.Sort
theorem PxB.below {x : Px} {w w' : World} {i : Nat} (h : PxB x w i) (hb : RowKit.Below w.heap.size w w') : PxB x w' i := Blk.below h hb h.lt
theorem PxB.step {x : Px} {w : World} {i : Nat} (h : PxB x w i) : PxB x (w.setCell ⟨x.pb, 1, none⟩ (.int .i64 ((i : Int) + 1))) (i + 1) := Blk.set h 1 _
theorem only_step {x : Px} {w w' : World} (hb : RowKit.Below w.heap.size w w') (v : Value) : Only w.heap.size x.pb w (w'.setCell ⟨x.pb, 1, none⟩ v) :=
 (Only.of_below hb (Nat.le_refl _)).setCell (p := ⟨x.pb, 1, none⟩) (.inl rfl) v
set_option maxHeartbeats 1600000 in
theorem ph_is (x : Px) (i : Nat) (s : ByteArray) (l : List UInt8) (hl : s.toList = l) (w : World) (hx : PxIn x w) (hB : PxB x w i) (hi : i ≤ x.ts.length) :
   Calls Tryz.prog 58 #[.pointer (some ⟨x.pb, 0, none⟩), .string s] w fun r w' => r = .returned (.bool (hdW l (x.ts.drop i))) ∧ RowKit.Below w.heap.size w w' := by
 have HC := Lib.hid (ph_ahead0 x i s l hl w hx hB hi)
 clear hl hx hB
 go_enter Tryz.func58, Tryz.ntmps58
 go_wp2_with fail
 refine HC.out.mono ?_
 rintro r w1 ⟨rfl, hb⟩
 go_wp2_with fail
 go_ret
 exact ⟨rfl, hb⟩
set_option maxHeartbeats 1600000 in
theorem ph_take_no (x : Px) (i : Nat) (s : ByteArray) (l : List UInt8) (hl : s.toList = l) (w : World) (hx : PxIn x w) (hB : PxB x w i) (hi : i ≤ x.ts.length) (h : hdW l (x.ts.drop i) = false) :
   Calls Tryz.prog 99 #[.pointer (some ⟨x.pb, 0, none⟩), .string s] w fun r w' => r = .returned (.bool false) ∧ RowKit.Below w.heap.size w w' := by
 have HC := Lib.hid (ph_is x i s l hl w hx hB hi)
 rw [h] at HC
 clear hl hx hB h
 go_enter Tryz.func99, Tryz.ntmps99
 go_wp2_with fail
 refine HC.out.mono ?_
 rintro r w1 ⟨rfl, hb⟩
 go_wp2_with fail
 go_ret
 exact ⟨rfl, hb⟩
set_option maxHeartbeats 1600000 in
theorem ph_take_yes (x : Px) (i : Nat) (s : ByteArray) (l : List UInt8) (hl : s.toList = l) (w : World) (hx : PxIn x w) (hB : PxB x w i) (hi : i ≤ x.ts.length) (h : hdW l (x.ts.drop i) = true) :
   Calls Tryz.prog 99 #[.pointer (some ⟨x.pb, 0, none⟩), .string s] w fun r w' => r = .returned (.bool true) ∧ PxB x w' (i + 1) ∧ Only w.heap.size x.pb w w' := by
 have HC := Lib.hid (ph_is x i s l hl w hx hB hi)
 rw [h] at HC
 have hlen := hx.len
 have HB := Lib.hid hB
 have hi64 : IntKind.wrap .i64 ((i : Int) + 1) = (i : Int) + 1 := IntWalk.i64_in _ (by omega)
 clear hl hx hB h
 go_enter Tryz.func99, Tryz.ntmps99
 go_wp2_with fail
 refine HC.out.mono ?_
 rintro r w1 ⟨rfl, hb⟩
 have HB1 := Lib.hid (HB.out.below hb)
 have c1 : w1.cell? ⟨x.pb, 1, none⟩ = some (.int .i64 i) := HB1.out.cell 1
 have f1 : w1.frozen? ⟨x.pb, 1, none⟩ = false := HB1.out.frozen 1
 have HO := Lib.hid (only_step (x := x) hb (.int .i64 ((i : Int) + 1)))
 clear hb
 go_wp2_with fail
 go_ret
 exact ⟨rfl, HB1.out.step, HO.out⟩
set_option maxHeartbeats 1600000 in
theorem ph_need_yes (x : Px) (i : Nat) (s : ByteArray) (l : List UInt8) (hl : s.toList = l) (w : World) (hx : PxIn x w) (hB : PxB x w i) (hi : i ≤ x.ts.length) (h : hdW l (x.ts.drop i) = true) :
   Calls Tryz.prog 61 #[.pointer (some ⟨x.pb, 0, none⟩), .string s] w fun r w' => r = .returned (.tuple #[]) ∧ PxB x w' (i + 1) ∧ Only w.heap.size x.pb w w' := by
 have HC := Lib.hid (ph_take_yes x i s l hl w hx hB hi h)
 clear hl hx hB h
 go_enter Tryz.func61, Tryz.ntmps61
 go_wp2_with fail
 refine HC.out.mono ?_
 rintro r w1 ⟨rfl, hb, ho⟩
 have HB1 := Lib.hid hb
 have HO1 := Lib.hid ho
 clear hb ho
 go_wp2_with fail
 simp [bodyPost, results, Tryz.results61, go_sem]
 exact ⟨HB1.out, HO1.out⟩
set_option maxHeartbeats 1600000 in
theorem ph_need_no (x : Px) (i : Nat) (s : ByteArray) (l : List UInt8) (hl : s.toList = l) (w : World) (hx : PxIn x w) (hB : PxB x w i) (hi : i ≤ x.ts.length) (h : hdW l (x.ts.drop i) = false) :
   Calls Tryz.prog 61 #[.pointer (some ⟨x.pb, 0, none⟩), .string s] w fun r w' => r = .panicked (wrongP 1 i) ∧ RowKit.Below w.heap.size w w' := by
 have HC := Lib.hid (ph_take_no x i s l hl w hx hB hi h)
 have HB := Lib.hid hB
 clear hl hx hB h
 go_enter Tryz.func61, Tryz.ntmps61
 go_wp2_with fail
 refine HC.out.mono ?_
 rintro r w1 ⟨rfl, hb⟩
 have HF := Lib.hid (ph_fail x i w1 (HB.out.below hb))
 have HB1 := Lib.hid hb
 clear hb
 go_wp2_with fail
 refine HF.out.mono ?_
 rintro r w2 ⟨rfl, rfl⟩
 go_wp2_with fail
 exact ⟨rfl, rfl, HB1.out⟩
set_option maxHeartbeats 1600000 in
theorem ph_kind (x : Px) (i : Nat) (w : World) (hx : PxIn x w) (hB : PxB x w i) (hi : i ≤ x.ts.length) :
   Calls Tryz.prog 133 #[.pointer (some ⟨x.pb, 0, none⟩)] w fun r w' => r = .returned (.int .i64 (kdR (x.ts.drop i))) ∧ RowKit.Below w.heap.size w w' := by
 have k0 : w.cell? ⟨x.pb, 0, none⟩ = some (.slice x.A x.ts.length x.c) := hB.cell 0
 have k1 : w.cell? ⟨x.pb, 1, none⟩ = some (.int .i64 i) := hB.cell 1
 have hpb := hB.lt
 have HX := Lib.hid hx
 have HB := Lib.hid hB
 have HW0 := Lib.hid (fun n => below_drewN (RowKit.Below.refl w.heap.size w) n)
 clear hB hx
 by_cases hlt : i < x.ts.length
 · obtain ⟨t, ht⟩ : ∃ t, x.ts[i]? = some t := ⟨_, List.getElem?_eq_getElem hlt⟩
   obtain ⟨b, o, hA, hb, d0, d1, d2⟩ := HX.out.at_ ht
   have HR : Hid (kdR (x.ts.drop i) = t.kind) := by show _ = _; rw [drop_cons ht]; rfl
   rw [HR.out]
   rw [hA] at k0
   have ti := tok_at b o x.ts.length x.c i hlt
   have tg : decide ((i : Int) < (x.ts.length : Int)) = true := by simp; omega
   have hbw : b < w.heap.size := Nat.lt_trans hb hpb
   clear ht HR
   go_enter Tryz.func133, Tryz.ntmps133
   go_wp2_with fail
   go_quiet (fail)
   go_wp2_with fail
   go_quiet (fail)
   go_wp2_with fail
   go_ret
   exact ⟨rfl, below_drewN (HW0.out _) _⟩
 · have HR : Hid (kdR (x.ts.drop i) = 0) := by show _ = _; rw [List.drop_eq_nil_of_le (by omega)]; rfl
   rw [HR.out]
   have tg : decide ((i : Int) < (x.ts.length : Int)) = false := by simp; omega
   go_enter Tryz.func133, Tryz.ntmps133
   go_wp2_with fail
   go_quiet (fail)
   go_wp2_with fail
   go_ret
   exact ⟨rfl, HW0.out _⟩
set_option maxHeartbeats 1600000 in
theorem ph_word_no (x : Px) (i : Nat) (k : Int) (w : World) (hx : PxIn x w) (hB : PxB x w i) (hi : i ≤ x.ts.length) (h : kdR (x.ts.drop i) ≠ k) :
   Calls Tryz.prog 160 #[.pointer (some ⟨x.pb, 0, none⟩), .int .i64 k] w fun r w' => r = .panicked (wrongP 1 i) ∧ RowKit.Below w.heap.size w w' := by
 have HC := Lib.hid (ph_kind x i w hx hB hi)
 have HB := Lib.hid hB
 have tn : (kdR (x.ts.drop i) != k) = true := by simpa using h
 clear hx hB h
 generalize kdR (x.ts.drop i) = kd at HC tn
 go_enter Tryz.func160, Tryz.ntmps160
 go_wp2_with fail
 refine HC.out.mono ?_
 rintro r w1 ⟨rfl, hb⟩
 have HF := Lib.hid (ph_fail x i w1 (HB.out.below hb))
 have HB1 := Lib.hid hb
 clear hb
 go_wp2_with fail
 refine HF.out.mono ?_
 rintro r w2 ⟨rfl, rfl⟩
 go_wp2_with fail
 exact ⟨rfl, rfl, HB1.out⟩
set_option maxHeartbeats 1600000 in
theorem ph_word_yes (x : Px) (i : Nat) (k : Int) (t : Tk) (ht : x.ts[i]? = some t) (hk : t.kind = k) (w : World) (hx : PxIn x w) (hB : PxB x w i) :
   Calls Tryz.prog 160 #[.pointer (some ⟨x.pb, 0, none⟩), .int .i64 k] w fun r w' => r = .returned (.string t.s) ∧ PxB x w' (i + 1) ∧ Only w.heap.size x.pb w w' := by
 have hlt : i < x.ts.length := (List.getElem?_eq_some_iff.1 ht).1
 have HC := Lib.hid (ph_kind x i w hx hB (by omega))
 rw [show kdR (x.ts.drop i) = k from by rw [drop_cons ht]; exact hk] at HC
 have hlen := hx.len
 have hpb := hB.lt
 have HB := Lib.hid hB
 obtain ⟨b, o, hA, hb, d0, d1, d2⟩ := hx.at_ ht
 have D1 := Lib.hid d1
 have HA := Lib.hid hA
 have hbw : b < w.heap.size := Nat.lt_trans hb hpb
 have hi64 : IntKind.wrap .i64 ((i : Int) + 1) = (i : Int) + 1 := IntWalk.i64_in _ (by omega)
 have hi65 : IntKind.wrap .i64 ((i : Int) + 1 - 1) = (i : Int) := by rw [Int.add_sub_cancel]; exact IntWalk.i64_in _ (by omega)
 have hi66 : IntKind.wrap .i64 (i : Int) = (i : Int) := IntWalk.i64_in _ (by omega)
 have ti := tok_at b o x.ts.length x.c i hlt
 clear hx hB ht hk d0 d1 d2 hA
 go_enter Tryz.func160, Tryz.ntmps160
 go_wp2_with fail
 refine HC.out.mono ?_
 rintro r w1 ⟨rfl, hb1⟩
 have HB1 := Lib.hid (HB.out.below hb1)
 have c1 : w1.cell? ⟨x.pb, 1, none⟩ = some (.int .i64 i) := HB1.out.cell 1
 have f1 : w1.frozen? ⟨x.pb, 1, none⟩ = false := HB1.out.frozen 1
 have D2 : Hid (w1.cell? ⟨b, o + i * 3 + 1, none⟩ = some (.string t.s)) := (hb1.cell hbw).trans D1.out
 have HO := Lib.hid (only_step (x := x) hb1 (.int .i64 ((i : Int) + 1)))
 have HB2 := Lib.hid HB1.out.step
 have g0 : (w1.setCell ⟨x.pb, 1, none⟩ (.int .i64 ((i : Int) + 1))).cell? ⟨x.pb, 0, none⟩ = some (.slice (some ⟨b, o, none⟩) x.ts.length x.c) := by rw [← HA.out]; exact HB2.out.cell 0
 have g1 : (w1.setCell ⟨x.pb, 1, none⟩ (.int .i64 ((i : Int) + 1))).cell? ⟨x.pb, 1, none⟩ = some (.int .i64 ((i : Int) + 1)) := HB2.out.cell 1
 have g2 : (w1.setCell ⟨x.pb, 1, none⟩ (.int .i64 ((i : Int) + 1))).cell? ⟨b, o + i * 3 + 1, none⟩ = some (.string t.s) := (World.cell?_of_block (w := w1) (a := ⟨b, o + i * 3 + 1, none⟩) (Below.heap_setCell w1 ⟨x.pb, 1, none⟩ _ b (by simp; omega))).trans D2.out
 clear hb1
 go_wp2_with fail
 generalize w1.setCell ⟨x.pb, 1, none⟩ (.int .i64 ((i : Int) + 1)) = w2 at HO HB2 g0 g1 g2 ⊢
 go_quiet (fail)
 go_wp2_with fail
 go_ret
 exact ⟨rfl, HB2.out.drewN _, HO.out.drewN _⟩
set_option maxHeartbeats 1600000 in
theorem ph_reserved (x : Px) (i : Nat) (w : World) (hx : PxIn x w) (hB : PxB x w i) (hi : i ≤ x.ts.length) :
   Calls Tryz.prog 240 #[.pointer (some ⟨x.pb, 0, none⟩)] w fun r w' => r = .panicked (wrongP 1 (i + 1)) ∧ Only w.heap.size x.pb w w' := by
 have hlen := hx.len
 have HB := Lib.hid hB
 have c1 : w.cell? ⟨x.pb, 1, none⟩ = some (.int .i64 i) := hB.cell 1
 have f1 : w.frozen? ⟨x.pb, 1, none⟩ = false := hB.frozen 1
 have hi64 : IntKind.wrap .i64 ((i : Int) + 1) = (i : Int) + 1 := IntWalk.i64_in _ (by omega)
 have HF := Lib.hid (ph_fail x (i + 1) _ hB.step)
 have HO := Lib.hid (only_step (x := x) (RowKit.Below.refl w.heap.size w) (.int .i64 ((i : Int) + 1)))
 clear hx hB
 go_enter Tryz.func240, Tryz.ntmps240
 go_wp2_with fail
 refine HF.out.mono ?_
 rintro r w2 ⟨rfl, rfl⟩
 go_wp2_with fail
 exact ⟨rfl, rfl, HO.out⟩
end Go.Proofs.YtbggbcnfkcadjaaGreatDoor
namespace Go.Proofs.YtbggbcnfkcadjaaGreatDoor
set_option maxRecDepth 100000
open Go.RowKit Go.Sort
set_option maxHeartbeats 1600000 in
theorem ph_node (x : Nd) (ps : List NsM) (A : Option Addr) (c : Nat) (w : World) (hs : NssAt w A ps) (hne : ∀ p ∈ ps, p.e ≠ []) (hl : (catN ps).length ≤ 100000) (hp : ps.length ≤ 100000) :
   Calls Tryz.prog 100 #[.agg #[.int .i64 x.op, .int .i64 x.n, .string x.s, .string x.t], .slice A ps.length c] w fun r w' => NdsNew w r w' (x :: catN ps) := by
 obtain ⟨i0, hi, hz0, hz1, hz2⟩ := info_parts nd_info
 have HS := Lib.hid hs
 have HN := Lib.hid hne
 clear hs hne
 go_enter Tryz.func100, Tryz.ntmps100
 go_wp2_with fail
 go_loopw [5, 12] (fun out kk wr => ∃ k : Nat, kk = .int .i64 k ∧ k ≤ ps.length ∧ Hid (wr.ownsRow w.heap.size 29 4 out (x :: catN (ps.take k)).length (flat (x :: catN (ps.take k)))) ∧ RowKit.Below w.heap.size w wr)
     (fun _ kk _ => ps.length - (intOf kk).toNat)
 case atStart => exact ⟨0, rfl, by omega, by simpa [catN, Hid, flat, Nd.cells] using World.ownsRow_lit (base := w.heap.size) (e := 29) (size := 4) (w.alloc (.cells #[.int .i64 x.op, .int .i64 x.n, .string x.s, .string x.t] 29)) #[.int .i64 x.op, .int .i64 x.n, .string x.s, .string x.t] 1 (by simp) (by decide) (by simp), by (repeat (first | assumption | exact Below.refl _ _ | apply Below.drew | apply below_drewN | (refine Below.alloc ?_ (by first | exact Nat.le_refl _ | omega | (simp; done) | (simp; omega)) _)))⟩
 case round =>
   obtain ⟨k, rfl, hk, HO, hbr⟩ := hrel
   have hzr := hbr.size
   by_cases hlt : k < ps.length
   · obtain ⟨⟨Ap, cp, e⟩, hx⟩ : ∃ p, ps[k]? = some p := ⟨_, List.getElem?_eq_getElem hlt⟩
     have HST := Lib.hid (catN_step hx)
     have h1 := catN_le (ps := ps) k
     have h2 := catN_le (ps := ps) (k + 1)
     rw [HST.out, List.length_append] at h2
     have hee := HN.out _ (List.mem_of_getElem? hx)
     have hg := (HS.out.good _ (List.mem_of_getElem? hx)).later hbr
     obtain ⟨b, o, rfl, hb, hc0⟩ := nsSl_at (HS.out.later hbr).sl hx
     simp only at hc0 hee h2
     obtain ⟨bn, on, rfl, hbn, -⟩ := hg.sl hee
     have HC := Lib.hid (fun j u hu => NdSl.flat hg.sl j u hu)
     generalize hpk : catN (ps.take k) = pk at *
     clear hpk hg hx hee
     go_wp2_with (at_builtin; refine wpList_append_own _ rfl (.tmp 16) (.tmp 17) 22 rfl w.heap.size 29 i0 _ 4 48 Tryz.underlying22 hi hz0 hz1 hz2 rfl (by omega) u5 (x :: pk).length (flat (x :: pk)) rfl HO.out ⟨bn, on, none⟩ e.length cp (flat e) rfl (flat_len e) HC.out (flat_one_cell e) (by unfold maxLen; simp; omega) (by simp; omega) (by omega) ?_; intro v1 w1 hown1 hgrow1 _)
     have hb2 : RowKit.Below w.heap.size w w1 := hbr.grown hgrow1 hbr.size (fun q hq => (HO.out.lt q hq).1)
     have hv := HST.out
     exact ⟨⟨k + 1, by go_num, by omega, by rw [hv]; simpa [Hid, ← flat_append, Nat.add_right_comm] using hown1, hb2⟩, by simp [intOf]; omega⟩
   · have HT : Hid (ps.take k = ps) := by show _ = _; rw [List.take_of_length_le (by omega)]
     rw [HT.out] at HO
     obtain ⟨Ao, co, rfl, hco, hcm, hso, hnew⟩ := own_form_new HO.out
     have HSO := Lib.hid hso
     have HNW := Lib.hid hnew
     clear hso HO hnew
     go_wp2_with fail
     go_ret
     exact ⟨Ao, co, rfl, hco, hcm, HSO.out, hbr, HNW.out⟩
set_option maxHeartbeats 1600000 in
theorem ph_op (k : Int) (ps : List NsM) (A : Option Addr) (c : Nat) (w : World) (hs : NssAt w A ps) (hne : ∀ p ∈ ps, p.e ≠ []) (hl : (catN ps).length ≤ 100000) (hp : ps.length ≤ 100000) :
   Calls Tryz.prog 62 #[.int .i64 k, .slice A ps.length c] w fun r w' => NdsNew w r w' (opX k (catN ps)) := by
 have HC := Lib.hid (ph_node ⟨k, 0, ⟨#[]⟩, ⟨#[]⟩⟩ ps A c w hs hne hl hp)
 clear hs hne hl hp
 go_enter Tryz.func62, Tryz.ntmps62
 go_wp2_with fail
 refine HC.out.mono ?_
 rintro r w1 hn
 have HN := Lib.hid hn
 obtain ⟨A1, c1, rfl, -⟩ := hn
 go_wp2_with fail
 go_ret
 exact HN.out
structure Exm (B : Nat) (W : World) (m : NsM) : Prop where
 good : NsGood W W.heap.size m
 far : ∀ b o, m.A = some ⟨b, o, none⟩ → B ≤ b
 ne : m.e ≠ []
theorem Exm.only {B pb S : Nat} {W W' : World} {m : NsM} (h : Exm B W m) (ho : Only S pb W W') (hS : W.heap.size ≤ S) (hB : pb < B) : Exm B W' m :=
 ⟨⟨fun hne => by
   obtain ⟨b, o, e, hb, hc⟩ := h.good.sl hne
   have hf := h.far b o e
   have k : ∀ i, W'.cell? ⟨b, i, none⟩ = W.cell? ⟨b, i, none⟩ := fun i => ho.cell (p := ⟨b, i, none⟩) (by simp; omega) (by simp; omega)
   exact ⟨b, o, e, Nat.lt_of_lt_of_le hb ho.size, fun i x hx => by
     obtain ⟨q0, q1, q2, q3⟩ := hc i x hx
     exact ⟨(k _).trans q0, (k _).trans q1, (k _).trans q2, (k _).trans q3⟩⟩, h.good.le, h.good.max⟩, h.far, h.ne⟩
theorem Exm.below {B : Nat} {W W' : World} {m : NsM} (h : Exm B W m) (hb : RowKit.Below W.heap.size W W') : Exm B W' m := ⟨h.good.later hb, h.far, h.ne⟩
theorem Exm.less {B B' : Nat} {W : World} {m : NsM} (h : Exm B W m) (hB : B' ≤ B) : Exm B' W m := ⟨h.good, fun b o e => Nat.le_trans hB (h.far b o e), h.ne⟩
theorem nss_new {B : Nat} (W : World) (T : TypeId) (ms : List NsM) (cs : Array Value) (h : cs.toList = flatG NsM.cells ms) (hm : ∀ y ∈ ms, Exm B W y) : NssAt (W.alloc (.cells cs T)) (some ⟨W.heap.size, 0, none⟩) ms :=
 ⟨by have := new_SlG ns_ok W T ms cs h; rwa [show W.heap.size + 1 = (W.alloc (.cells cs T)).heap.size from by simp] at this, fun y hy => (hm y hy).good.later (by (repeat (first | assumption | exact Below.refl _ _ | apply Below.drew | apply below_drewN | (refine Below.alloc ?_ (by first | exact Nat.le_refl _ | omega | (simp; done) | (simp; omega)) _))))⟩
def PaPost (x : Px) (w : World) (q : Pr) (r : Ending) (w' : World) : Prop := Only w.heap.size x.pb w w' ∧ match q with
 | .ok e rest => ∃ A c j, r = .returned (.slice A e.length c) ∧ Exm w.heap.size w' ⟨A, c, e⟩ ∧ rest = x.ts.drop j ∧ j ≤ x.ts.length ∧ PxB x w' j
 | .bad k rest => ∃ j, r = .panicked (wrongP k j) ∧ rest = x.ts.drop j ∧ j ≤ x.ts.length
def Does (x : Px) (fn : Nat) (p : List Tk → Pr) : Prop := ∀ (w : World) (i : Nat), PxIn x w → PxB x w i → i ≤ x.ts.length → (∀ r, p (x.ts.drop i) ≠ .bad 0 r) → Calls Tryz.prog fn #[.pointer (some ⟨x.pb, 0, none⟩)] w (PaPost x w (p (x.ts.drop i)))
theorem PaPost.up {x : Px} {w w1 : World} {q : Pr} {r : Ending} {w' : World} (h : PaPost x w1 q r w') (ho : Only w.heap.size x.pb w w1) : PaPost x w q r w' := by
 obtain ⟨h1, h2⟩ := h
 refine ⟨ho.trans (h1.mono ho.size), ?_⟩
 cases q with
 | ok e rest =>
   obtain ⟨A, c, j, e1, e2, e3, e4, e5⟩ := h2
   exact ⟨A, c, j, e1, e2.less ho.size, e3, e4, e5⟩
 | bad k rest => exact h2
theorem PaPost.no {x : Px} {w w' : World} {k : Int} {j : Nat} {rest : List Tk} (ho : Only w.heap.size x.pb w w') (hj : j ≤ x.ts.length) (hr : rest = x.ts.drop j) : PaPost x w (.bad k rest) (.panicked (wrongP k j)) w' := ⟨ho, j, rfl, hr, hj⟩
theorem PaPost.yes {x : Px} {w w1 w' : World} {e : List Nd} {r : Ending} {rest : List Tk} {j : Nat} (hn : NdsNew w1 r w' e) (ho : Only w.heap.size x.pb w w1) (hne : e ≠ []) (hB : PxB x w1 j) (hj : j ≤ x.ts.length) (hr : rest = x.ts.drop j) : PaPost x w (.ok e rest) r w' := by
 obtain ⟨A, c, h1, h2, h3, h4, h5, h6⟩ := hn
 have hz := ho.size
 exact ⟨ho.trans ((Only.of_below h5 (Nat.le_refl _)).mono hz), A, c, j, h1, ⟨⟨h4, h2, h3⟩, fun b o e => by have := h6 b o e; omega, hne⟩, hr, hj, hB.below h5⟩
theorem tail_drop' (ts : List Tk) (i : Nat) : (ts.drop i).tail = ts.drop (i + 1) := by rw [List.tail_drop]
theorem hd_lt {f : List Tk → Bool} {ts : List Tk} {i : Nat} (hf : f [] = false) (h : f (ts.drop i) = true) : i < ts.length := by
 apply Classical.byContradiction
 intro hn
 rw [List.drop_eq_nil_of_le (by omega), hf] at h; cases h
theorem drop_tk {ts : List Tk} (h : ∀ t ∈ ts, TkS t) (i : Nat) : ∀ t ∈ ts.drop i, TkS t := fun t ht => h t (List.mem_of_mem_drop ht)
end Go.Proofs.YtbggbcnfkcadjaaGreatDoor
namespace Go.Proofs.YtbggbcnfkcadjaaGreatDoor
set_option maxRecDepth 100000
open Go.RowKit Go.Sort
structure St (x : Px) (w W : World) (i : Nat) : Prop where
 inn : PxIn x W
 blk : PxB x W i
 le : i ≤ x.ts.length
 only : Only w.heap.size x.pb w W
 lt : x.pb < w.heap.size
theorem St.start {x : Px} {w : World} {i : Nat} (hx : PxIn x w) (hB : PxB x w i) (hi : i ≤ x.ts.length) : St x w w i := ⟨hx, hB, hi, Only.refl _ _ _, hB.lt⟩
theorem St.pb {x : Px} {w W : World} {i : Nat} (h : St x w W i) : x.pb < W.heap.size := h.blk.lt
theorem St.turn {x : Px} {w W W' : World} {i j : Nat} (h : St x w W i) (ho : Only W.heap.size x.pb W W') (hB : PxB x W' j) (hj : j ≤ x.ts.length) : St x w W' j :=
 ⟨h.inn.keep ho (Nat.le_of_lt h.pb), hB, hj, h.only.trans (ho.mono h.only.size), h.lt⟩
theorem St.below {x : Px} {w W W' : World} {i : Nat} (h : St x w W i) (hb : RowKit.Below W.heap.size W W') : St x w W' i :=
 h.turn (Only.of_below hb (Nat.le_refl _)) (h.blk.below hb) h.le
theorem St.step {x : Px} {w W : World} {i : Nat} (h : St x w W i) (hi : i < x.ts.length) : St x w (W.setCell ⟨x.pb, 1, none⟩ (.int .i64 ((i : Int) + 1))) (i + 1) :=
 h.turn (only_step (RowKit.Below.refl _ _) _) h.blk.step hi
theorem St.i64 {x : Px} {w W : World} {i : Nat} (h : St x w W i) : IntKind.wrap .i64 ((i : Int) + 1) = (i : Int) + 1 := by
 have := h.le; have := h.inn.len; exact IntWalk.i64_in _ (by omega)
theorem Exm.on {x : Px} {w W W' : World} {m : NsM} (h : Exm w.heap.size W m) (ho : Only W.heap.size x.pb W W') (hlt : x.pb < w.heap.size) : Exm w.heap.size W' m := h.only ho (Nat.le_refl _) hlt
theorem St.is {x : Px} {w W : World} {i : Nat} (h : St x w W i) (s : ByteArray) (l : List UInt8) (hl : s.toList = l) (b : Bool) (hb : hdW l (x.ts.drop i) = b) :
   Calls Tryz.prog 58 #[.pointer (some ⟨x.pb, 0, none⟩), .string s] W fun r W' => r = .returned (.bool b) ∧ St x w W' i ∧ Only W.heap.size x.pb W W' := by
 refine (ph_is x i s l hl W h.inn h.blk h.le).mono ?_
 rintro r W' ⟨rfl, hw⟩
 exact ⟨by rw [hb], h.below hw, Only.of_below hw (Nat.le_refl _)⟩
theorem St.ahead {x : Px} {w W : World} {i : Nat} (h : St x w W i) (s : ByteArray) (l : List UInt8) (hl : s.toList = l) (b : Bool) (hb : hdW l (x.ts.drop (i + 1)) = b) :
   Calls Tryz.prog 59 #[.pointer (some ⟨x.pb, 0, none⟩), .int .i64 1, .string s] W fun r W' => r = .returned (.bool b) ∧ St x w W' i ∧ Only W.heap.size x.pb W W' := by
 refine (ph_ahead1 x i s l hl W h.inn h.blk h.le).mono ?_
 rintro r W' ⟨rfl, hw⟩
 exact ⟨by rw [hb], h.below hw, Only.of_below hw (Nat.le_refl _)⟩
theorem St.take_yes {x : Px} {w W : World} {i : Nat} (h : St x w W i) (s : ByteArray) (l : List UInt8) (hl : s.toList = l) (hb : hdW l (x.ts.drop i) = true) :
   Calls Tryz.prog 99 #[.pointer (some ⟨x.pb, 0, none⟩), .string s] W fun r W' => r = .returned (.bool true) ∧ St x w W' (i + 1) ∧ Only W.heap.size x.pb W W' := by
 have hlt := hd_lt (f := hdW l) rfl hb
 refine (ph_take_yes x i s l hl W h.inn h.blk h.le hb).mono ?_
 rintro r W' ⟨rfl, hB, ho⟩
 exact ⟨rfl, h.turn ho hB hlt, ho⟩
theorem St.take_no {x : Px} {w W : World} {i : Nat} (h : St x w W i) (s : ByteArray) (l : List UInt8) (hl : s.toList = l) (hb : hdW l (x.ts.drop i) = false) :
   Calls Tryz.prog 99 #[.pointer (some ⟨x.pb, 0, none⟩), .string s] W fun r W' => r = .returned (.bool false) ∧ St x w W' i ∧ Only W.heap.size x.pb W W' := by
 refine (ph_take_no x i s l hl W h.inn h.blk h.le hb).mono ?_
 rintro r W' ⟨rfl, hw⟩
 exact ⟨rfl, h.below hw, Only.of_below hw (Nat.le_refl _)⟩
theorem St.need_yes {x : Px} {w W : World} {i : Nat} (h : St x w W i) (s : ByteArray) (l : List UInt8) (hl : s.toList = l) (hb : hdW l (x.ts.drop i) = true) :
   Calls Tryz.prog 61 #[.pointer (some ⟨x.pb, 0, none⟩), .string s] W fun r W' => r = .returned (.tuple #[]) ∧ St x w W' (i + 1) ∧ Only W.heap.size x.pb W W' := by
 have hlt := hd_lt (f := hdW l) rfl hb
 refine (ph_need_yes x i s l hl W h.inn h.blk h.le hb).mono ?_
 rintro r W' ⟨rfl, hB, ho⟩
 exact ⟨rfl, h.turn ho hB hlt, ho⟩
theorem St.need_no {x : Px} {w W : World} {i : Nat} (h : St x w W i) (s : ByteArray) (l : List UInt8) (hl : s.toList = l) (hb : hdW l (x.ts.drop i) = false) :
   Calls Tryz.prog 61 #[.pointer (some ⟨x.pb, 0, none⟩), .string s] W fun r W' => r = .panicked (wrongP 1 i) ∧ St x w W' i ∧ Only W.heap.size x.pb W W' := by
 refine (ph_need_no x i s l hl W h.inn h.blk h.le hb).mono ?_
 rintro r W' ⟨rfl, hw⟩
 exact ⟨rfl, h.below hw, Only.of_below hw (Nat.le_refl _)⟩
theorem St.word_yes {x : Px} {w W : World} {i : Nat} (h : St x w W i) (k : Int) (t : Tk) (ht : x.ts[i]? = some t) (hk : t.kind = k) :
   Calls Tryz.prog 160 #[.pointer (some ⟨x.pb, 0, none⟩), .int .i64 k] W fun r W' => r = .returned (.string t.s) ∧ St x w W' (i + 1) ∧ Only W.heap.size x.pb W W' := by
 refine (ph_word_yes x i k t ht hk W h.inn h.blk).mono ?_
 rintro r W' ⟨rfl, hB, ho⟩
 exact ⟨rfl, h.turn ho hB (List.getElem?_eq_some_iff.1 ht).1, ho⟩
theorem St.word_no {x : Px} {w W : World} {i : Nat} (h : St x w W i) (k : Int) (hk : kdR (x.ts.drop i) ≠ k) :
   Calls Tryz.prog 160 #[.pointer (some ⟨x.pb, 0, none⟩), .int .i64 k] W fun r W' => r = .panicked (wrongP 1 i) ∧ St x w W' i ∧ Only W.heap.size x.pb W W' := by
 refine (ph_word_no x i k W h.inn h.blk h.le hk).mono ?_
 rintro r W' ⟨rfl, hw⟩
 exact ⟨rfl, h.below hw, Only.of_below hw (Nat.le_refl _)⟩
theorem St.kind {x : Px} {w W : World} {i : Nat} (h : St x w W i) (k : Int) (hk : kdR (x.ts.drop i) = k) :
   Calls Tryz.prog 133 #[.pointer (some ⟨x.pb, 0, none⟩)] W fun r W' => r = .returned (.int .i64 k) ∧ St x w W' i ∧ Only W.heap.size x.pb W W' := by
 refine (ph_kind x i W h.inn h.blk h.le).mono ?_
 rintro r W' ⟨rfl, hw⟩
 exact ⟨by rw [hk], h.below hw, Only.of_below hw (Nat.le_refl _)⟩
theorem St.no {x : Px} {w W : World} {i : Nat} (h : St x w W i) (k : Int) : PaPost x w (.bad k (x.ts.drop i)) (.panicked (wrongP k i)) W := ⟨h.only, i, rfl, rfl, h.le⟩
theorem St.yes {x : Px} {w W W' : World} {i : Nat} (h : St x w W i) {e : List Nd} {r : Ending} (hn : NdsNew W r W' e) (hne : e ≠ []) : PaPost x w (.ok e (x.ts.drop i)) r W' := PaPost.yes hn h.only hne h.blk h.le rfl
theorem needN_eq (l : List UInt8) (ts : List Tk) (g : List Tk → Pr) : needN l ts g = if hdN l ts = true then g ts.tail else .bad 1 ts := by
 cases ts with
 | nil => rfl
 | cons t r => rfl
theorem needS_eq (l : List UInt8) (ts : List Tk) (g : List Tk → Pr) : needR l ts g = if hdS l ts = true then g ts.tail else .bad 1 ts := by
 cases ts with
 | nil => rfl
 | cons t r => rfl
theorem wordR_yes {ts : List Tk} {i : Nat} {t : Tk} (ht : ts[i]? = some t) {k : Int} (hk : t.kind = k) (g : ByteArray → List Tk → Pr) : wordR k (ts.drop i) g = g t.s (ts.drop (i + 1)) := by
 rw [drop_cons ht]
 show (if (t.kind == k) = true then _ else _) = _
 rw [if_pos (by simpa using hk)]
theorem wordR_no {ts : List Tk} {i : Nat} {k : Int} (hk : kdR (ts.drop i) ≠ k) (g : ByteArray → List Tk → Pr) : wordR k (ts.drop i) g = .bad 1 (ts.drop i) := by
 cases h : ts.drop i with
 | nil => rfl
 | cons t r =>
   rw [h] at hk
   show (if (t.kind == k) = true then _ else _) = _
   rw [if_neg (by simpa [kdR] using hk)]
theorem kd_some {ts : List Tk} {i : Nat} {k : Int} (hk : kdR (ts.drop i) = k) (h0 : k ≠ 0) : ∃ t, ts[i]? = some t ∧ t.kind = k := by
 rcases Nat.lt_or_ge i ts.length with h | h
 · have := drop_cons (List.getElem?_eq_getElem h)
   rw [this] at hk
   exact ⟨_, List.getElem?_eq_getElem h, hk⟩
 · rw [List.drop_eq_nil_of_le h] at hk; exact absurd hk.symm h0
theorem St.nm {x : Px} {w W : World} {i : Nat} (h : St x w W i) {c : UInt8} {r : List UInt8} (hc : letB c = true) (j : Nat) : hdW (c :: r) (x.ts.drop j) = hdN (c :: r) (x.ts.drop j) := hdW_nm (drop_tk h.inn.tk j) hc
theorem St.sg {x : Px} {w W : World} {i : Nat} (h : St x w W i) {c : UInt8} {r : List UInt8} (hc : letB c = false) (j : Nat) : hdW (c :: r) (x.ts.drop j) = hdS (c :: r) (x.ts.drop j) := hdW_sg (drop_tk h.inn.tk j) hc
theorem pa_len {x : Px} {w W : World} {i : Nat} (h : St x w W i) {f : Nat} {a : PT} (ha : a.gd 300) {e : List Nd} {r : List Tk} (he : pa f a (x.ts.drop i) = .ok e r) : e.length ≤ 300 + a.acc := by
 have hl := h.inn.len
 have := (pa_gd f 300 a (by omega) ha (x.ts.drop i) (drop_tk h.inn.tk i) (by rw [List.length_drop]; omega) e r he).nd
 rw [List.length_drop] at this
 omega
theorem pa_far {x : Px} {w W : World} {i : Nat} (h : St x w W i) {f : Nat} {a : PT} (ha : a.gd 300) {e : List Nd} {j : Nat} (hj : j ≤ x.ts.length) (he : pa f a (x.ts.drop i) = .ok e (x.ts.drop j)) : i + a.starts ≤ j := by
 have hl := h.inn.len
 have hi := h.le
 have := (pa_gd f 300 a (by omega) ha (x.ts.drop i) (drop_tk h.inn.tk i) (by rw [List.length_drop]; omega) e _ he).ln
 rw [List.length_drop, List.length_drop] at this
 omega
theorem nb_of {p Q : Pr} {g : List Nd → List Tk → Pr} (h : p.bind g = Q) (hn : ∀ r, Q ≠ .bad 0 r) : ∀ r, p ≠ .bad 0 r := fun r e => hn r (by rw [← h, e]; rfl)
def PanOr (x : Px) (w : World) (Q : Pr) (R : Ending → World → Prop) (r : Ending) (W' : World) : Prop := (∃ k j, r = .panicked (wrongP k j) ∧ PaPost x w Q (.panicked (wrongP k j)) W') ∨ R r W'
theorem St.call {x : Px} {w W : World} {i : Nat} (h : St x w W i) {fn : Nat} {f : Nat} {a : PT} {Q : Pr} {g : List Nd → List Tk → Pr} (hd : Does x fn (pa f a)) (hn : ∀ r, Q ≠ .bad 0 r) (ha : a.gd 300) (hQ : (pa f a (x.ts.drop i)).bind g = Q) :
   Calls Tryz.prog fn #[.pointer (some ⟨x.pb, 0, none⟩)] W (PanOr x w Q fun r W' => ∃ A c e j, r = .returned (.slice A e.length c) ∧ Exm w.heap.size W' ⟨A, c, e⟩ ∧ St x w W' j ∧ Only W.heap.size x.pb W W' ∧ g e (x.ts.drop j) = Q ∧ e.length ≤ 300 + a.acc ∧ i + a.starts ≤ j) := by
 refine (hd W i h.inn h.blk h.le (nb_of hQ hn)).mono ?_
 rintro r W' ⟨ho, hm⟩
 cases hq : pa f a (x.ts.drop i) with
 | ok e rest =>
   rw [hq] at hm hQ
   obtain ⟨A, c, j, h1, h2, h3, h4, h5⟩ := hm
   subst h3
   exact .inr ⟨A, c, e, j, h1, h2.less h.only.size, h.turn ho h5 h4, ho, hQ, pa_len h ha hq, pa_far h ha h4 hq⟩
 | bad k rest =>
   rw [hq] at hm hQ
   obtain ⟨j, h1, h2, h3⟩ := hm
   refine .inl ⟨k, j, h1, ?_⟩
   rw [← hQ]
   exact ⟨h.only.trans (ho.mono h.only.size), j, rfl, h2, h3⟩
theorem St.last {x : Px} {w W : World} {i : Nat} (h : St x w W i) {fn : Nat} {p : List Tk → Pr} {Q : Pr} (hd : Does x fn p) (hn : ∀ r, Q ≠ .bad 0 r) (hQ : p (x.ts.drop i) = Q) :
   Calls Tryz.prog fn #[.pointer (some ⟨x.pb, 0, none⟩)] W (PanOr x w Q fun r W' => ∃ A c n, r = .returned (.slice A n c) ∧ PaPost x w Q (.returned (.slice A n c)) W') := by
 refine (hd W i h.inn h.blk h.le (by rw [hQ]; exact hn)).mono ?_
 rintro r W' hm
 rw [hQ] at hm
 have hu := hm.up h.only
 obtain ⟨-, hm⟩ := hm
 cases Q with
 | ok e rest =>
   obtain ⟨A, c, j, h1, -⟩ := hm
   subst h1
   exact .inr ⟨A, c, _, rfl, hu⟩
 | bad k rest =>
   obtain ⟨j, h1, -⟩ := hm
   subst h1
   exact .inl ⟨k, j, rfl, hu⟩
theorem St.needN {x : Px} {w W : World} {i : Nat} (h : St x w W i) (s : ByteArray) {c : UInt8} {r0 : List UInt8} (hl : s.toList = c :: r0) (hc : letB c = true) {Q : Pr} {g : List Tk → Pr} (hQ : needN (c :: r0) (x.ts.drop i) g = Q) :
   Calls Tryz.prog 61 #[.pointer (some ⟨x.pb, 0, none⟩), .string s] W (PanOr x w Q fun r W' => r = .returned (.tuple #[]) ∧ St x w W' (i + 1) ∧ Only W.heap.size x.pb W W' ∧ g (x.ts.drop (i + 1)) = Q) := by
 rw [needN_eq, tail_drop'] at hQ
 cases hb : hdN (c :: r0) (x.ts.drop i) with
 | true =>
   rw [hb, if_pos rfl] at hQ
   refine (h.need_yes s _ hl (by rw [h.nm hc]; exact hb)).mono ?_
   rintro r W' ⟨rfl, h1, h2⟩
   exact .inr ⟨rfl, h1, h2, hQ⟩
 | false =>
   rw [hb, if_neg (by simp)] at hQ
   refine (h.need_no s _ hl (by rw [h.nm hc]; exact hb)).mono ?_
   rintro r W' ⟨rfl, h1, h2⟩
   exact .inl ⟨1, i, rfl, by rw [← hQ]; exact h1.no 1⟩
theorem St.needS {x : Px} {w W : World} {i : Nat} (h : St x w W i) (s : ByteArray) {c : UInt8} {r0 : List UInt8} (hl : s.toList = c :: r0) (hc : letB c = false) {Q : Pr} {g : List Tk → Pr} (hQ : needR (c :: r0) (x.ts.drop i) g = Q) :
   Calls Tryz.prog 61 #[.pointer (some ⟨x.pb, 0, none⟩), .string s] W (PanOr x w Q fun r W' => r = .returned (.tuple #[]) ∧ St x w W' (i + 1) ∧ Only W.heap.size x.pb W W' ∧ g (x.ts.drop (i + 1)) = Q) := by
 rw [needS_eq, tail_drop'] at hQ
 cases hb : hdS (c :: r0) (x.ts.drop i) with
 | true =>
   rw [hb, if_pos rfl] at hQ
   refine (h.need_yes s _ hl (by rw [h.sg hc]; exact hb)).mono ?_
   rintro r W' ⟨rfl, h1, h2⟩
   exact .inr ⟨rfl, h1, h2, hQ⟩
 | false =>
   rw [hb, if_neg (by simp)] at hQ
   refine (h.need_no s _ hl (by rw [h.sg hc]; exact hb)).mono ?_
   rintro r W' ⟨rfl, h1, h2⟩
   exact .inl ⟨1, i, rfl, by rw [← hQ]; exact h1.no 1⟩
theorem St.word {x : Px} {w W : World} {i : Nat} (h : St x w W i) (k : Int) (hk : k ≠ 0) {Q : Pr} {g : ByteArray → List Tk → Pr} (hQ : wordR k (x.ts.drop i) g = Q) :
   Calls Tryz.prog 160 #[.pointer (some ⟨x.pb, 0, none⟩), .int .i64 k] W (PanOr x w Q fun r W' => ∃ t, x.ts[i]? = some t ∧ r = .returned (.string t.s) ∧ St x w W' (i + 1) ∧ Only W.heap.size x.pb W W' ∧ TkS t ∧ t.kind = k ∧ g t.s (x.ts.drop (i + 1)) = Q) := by
 by_cases hb : kdR (x.ts.drop i) = k
 · obtain ⟨t, ht, htk⟩ := kd_some hb hk
   rw [wordR_yes ht htk] at hQ
   refine (h.word_yes k t ht htk).mono ?_
   rintro r W' ⟨rfl, h1, h2⟩
   exact .inr ⟨t, ht, rfl, h1, h2, h.inn.tk t (List.mem_of_getElem? ht), htk, hQ⟩
 · rw [wordR_no hb] at hQ
   refine (h.word_no k hb).mono ?_
   rintro r W' ⟨rfl, h1, h2⟩
   exact .inl ⟨1, i, rfl, by rw [← hQ]; exact h1.no 1⟩
theorem St.node {x : Px} {w W : World} {i : Nat} (h : St x w W i) (n : Nd) (T : TypeId) (ms : List NsM) (cs : Array Value) (hcs : cs.toList = flatG NsM.cells ms) (hm : ∀ y ∈ ms, Exm w.heap.size W y) (hl : (catN ms).length ≤ 100000) (hp : ms.length ≤ 100000) {E : List Nd} (hE : n :: catN ms = E) :
   Calls Tryz.prog 100 #[.agg #[.int .i64 n.op, .int .i64 n.n, .string n.s, .string n.t], .slice (some ⟨W.heap.size, 0, none⟩) ms.length ms.length] (W.alloc (.cells cs T)) fun r W' => ∃ A c, r = .returned (.slice A E.length c) ∧ Exm w.heap.size W' ⟨A, c, E⟩ ∧ St x w W' i ∧ Only W.heap.size x.pb W W' := by
 have hb0 : RowKit.Below W.heap.size W (W.alloc (.cells cs T)) := by (repeat (first | assumption | exact Below.refl _ _ | apply Below.drew | apply below_drewN | (refine Below.alloc ?_ (by first | exact Nat.le_refl _ | omega | (simp; done) | (simp; omega)) _)))
 refine (ph_node n ms _ _ _ (nss_new W T ms cs hcs hm) (fun p hp => (hm p hp).ne) hl hp).mono ?_
 rintro r W' ⟨A, c, h1, h2, h3, h4, h5, h6⟩
 rw [hE] at h1 h2 h4
 have hb : RowKit.Below W.heap.size W W' := hb0.trans (h5.mono (by simp))
 exact ⟨A, c, h1, ⟨⟨h4, h2, h3⟩, fun b o e => by have := h6 b o e; have := h.only.size; simp at *; omega, by rw [← hE]; simp⟩, h.below hb, Only.of_below hb (Nat.le_refl _)⟩
theorem St.op {x : Px} {w W : World} {i : Nat} (h : St x w W i) (k : Int) (T : TypeId) (ms : List NsM) (cs : Array Value) (hcs : cs.toList = flatG NsM.cells ms) (hm : ∀ y ∈ ms, Exm w.heap.size W y) (hl : (catN ms).length ≤ 100000) (hp : ms.length ≤ 100000) {E : List Nd} (hE : opX k (catN ms) = E) :
   Calls Tryz.prog 62 #[.int .i64 k, .slice (some ⟨W.heap.size, 0, none⟩) ms.length ms.length] (W.alloc (.cells cs T)) fun r W' => ∃ A c, r = .returned (.slice A E.length c) ∧ Exm w.heap.size W' ⟨A, c, E⟩ ∧ St x w W' i ∧ Only W.heap.size x.pb W W' := by
 have hb0 : RowKit.Below W.heap.size W (W.alloc (.cells cs T)) := by (repeat (first | assumption | exact Below.refl _ _ | apply Below.drew | apply below_drewN | (refine Below.alloc ?_ (by first | exact Nat.le_refl _ | omega | (simp; done) | (simp; omega)) _)))
 refine (ph_op k ms _ _ _ (nss_new W T ms cs hcs hm) (fun p hp => (hm p hp).ne) hl hp).mono ?_
 rintro r W' ⟨A, c, h1, h2, h3, h4, h5, h6⟩
 rw [hE] at h1 h2 h4
 have hb : RowKit.Below W.heap.size W W' := hb0.trans (h5.mono (by simp))
 exact ⟨A, c, h1, ⟨⟨h4, h2, h3⟩, fun b o e => by have := h6 b o e; have := h.only.size; simp at *; omega, by rw [← hE]; simp [opX]⟩, h.below hb, Only.of_below hb (Nat.le_refl _)⟩
theorem St.fin {x : Px} {w W : World} {i : Nat} (h : St x w W i) {A : Option Addr} {c : Nat} {e : List Nd} (hE : Exm w.heap.size W ⟨A, c, e⟩) {Q : Pr} (hQ : .ok e (x.ts.drop i) = Q) : PaPost x w Q (.returned (.slice A e.length c)) W := by
 subst hQ
 exact ⟨h.only, A, c, i, rfl, hE, rfl, h.le, h.blk⟩
theorem mem1 {p : NsM → Prop} {a : NsM} (ha : p a) : ∀ y ∈ [a], p y := fun y hy => by rw [List.mem_singleton] at hy; subst hy; exact ha
theorem mem2 {p : NsM → Prop} {a b : NsM} (ha : p a) (hb : p b) : ∀ y ∈ [a, b], p y := fun y hy => by
 rcases List.mem_cons.1 hy with rfl | hy
 · exact ha
 · exact mem1 hb y hy
theorem mem3 {p : NsM → Prop} {a b c : NsM} (ha : p a) (hb : p b) (hc : p c) : ∀ y ∈ [a, b, c], p y := fun y hy => by
 rcases List.mem_cons.1 hy with rfl | hy
 · exact ha
 · exact mem2 hb hc y hy
end Go.Proofs.YtbggbcnfkcadjaaGreatDoor
