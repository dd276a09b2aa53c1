/-
  THE WALKS: eval.Value where nothing is bad.
  PLAIN LAWS: what is wrong has a number that is not 0.
  THE WALKS: eval.Value, whole.
  THE WALKS: auth.first.
  PLAIN LAWS: the strings of an expression are short.
  PLAIN: the numbers of an expression stay in 64 bits if those of its number nodes do.
  PLAIN WORDS: the answer of some policies to a request. PLAIN LAWS for AuthOrder, AuthTrumps, AuthMore, AuthAlone, AuthApart, AuthCopies.
  PLAIN WORDS: a policy as an expression.
  PLAIN LAWS: a policy's expression is an expression.
  PLAIN LAW: the value of a formula without names is what it tells.
  PLAIN LAW: what a policy's expression is, of its scopes and conditions.
  THE WALK: the laws' comparison of nodes.
-/
import Derived.Test.YtpheiojmcafolaaGreatDoorB17
import Derived.Test.YtpheiojmcafolaaGreatDoorB01
import Derived.Test.YtpheiojmcafolaaGreatDoorB11
import Derived.Test.YtpheiojmcafolaaGreatDoorB02
import Derived.Test.YtpheiojmcafolaaGreatDoorB08
import Derived.BigQuiet
namespace Go.Proofs.YtpheiojmcafolaaGreatDoor
set_option maxRecDepth 100000
open Go.RowKit Go.Sort
set_option maxHeartbeats 6400000 in
theorem value_4 (x : Evl) (w : World) (h : VaIn x w) (h0 : entErr x.es = 0) (h00 : rqErr x.q = 0) (h1 : treeErr x.e = 0) (hf : FewIn x) :
   Calls Tryz.prog 19 #[.slice x.Ea x.hs.length x.ec, .agg #[.string x.q.who.ty, .string x.q.who.id, .string x.q.act.ty, .string x.q.act.id, .string x.q.what.ty, .string x.q.what.id, .slice x.qa x.q.ctx.length x.qc], .slice x.ea x.e.length x.eca] w fun r w' => (∀ v, evX x.es x.q x.e = .ok v → NdsNewE w r w' v 0) ∧ (∀ k, evX x.es x.q x.e = .bad k → r = .returned (.tuple #[.slice none 0 0, .iface 96 (.int .i64 k)]) ∧ RowKit.Below w.heap.size w w') := by
 have hmf : ∀ (fn : Fn) (first cap : Array Value) (w : World), (Instr.makeFunc fn first cap).run Tryz.prog w = .ok (.func fn first cap) w := fun _ _ _ _ => rfl
 have HE := Lib.hid (fun W (hb : RowKit.Below w.heap.size w W) => ent_Check x.hs x.es x.Ea x.ec W (h.later hb).ents h.ec)
 have HA := Lib.hid (fun W (hb : RowKit.Below w.heap.size w W) => eval_Ask x.q x.qa x.qc W h.qz.1 h.qz.2.1 h.qz.2.2 h.qc.1 h.qc.2 h.qk (h.later hb).ctx)
 have HT := Lib.hid (fun W (hb : RowKit.Below w.heap.size w W) => tree_Check x.e x.ea x.eca W h.eca.1 h.eca.2 h.ek (h.later hb).ex)
 have HH := Lib.hid h
 have b0 : Blk (((w.alloc (.cells #[.string x.q.who.ty, .string x.q.who.id, .string x.q.act.ty, .string x.q.act.id, .string x.q.what.ty, .string x.q.what.id, .slice x.qa x.q.ctx.length x.qc] 39)).alloc (.cells #[.slice none 0 0] 22)).alloc (.cells #[.nilIface] 27)) w.heap.size 39 #[.string x.q.who.ty, .string x.q.who.id, .string x.q.act.ty, .string x.q.act.id, .string x.q.what.ty, .string x.q.what.id, .slice x.qa x.q.ctx.length x.qc] := ((Blk.new w _ _).alloc _).alloc _
 have b1 : Blk (((w.alloc (.cells #[.string x.q.who.ty, .string x.q.who.id, .string x.q.act.ty, .string x.q.act.id, .string x.q.what.ty, .string x.q.what.id, .slice x.qa x.q.ctx.length x.qc] 39)).alloc (.cells #[.slice none 0 0] 22)).alloc (.cells #[.nilIface] 27)) (w.heap.size + 1) 22 #[.slice none 0 0] := by
   have := (Blk.new (w.alloc (.cells #[.string x.q.who.ty, .string x.q.who.id, .string x.q.act.ty, .string x.q.act.id, .string x.q.what.ty, .string x.q.what.id, .slice x.qa x.q.ctx.length x.qc] 39)) 22 #[.slice none 0 0]).alloc (.cells #[.nilIface] 27)
   rwa [World.size_alloc] at this
 have b2 : Blk (((w.alloc (.cells #[.string x.q.who.ty, .string x.q.who.id, .string x.q.act.ty, .string x.q.act.id, .string x.q.what.ty, .string x.q.what.id, .slice x.qa x.q.ctx.length x.qc] 39)).alloc (.cells #[.slice none 0 0] 22)).alloc (.cells #[.nilIface] 27)) (w.heap.size + 1 + 1) 27 #[.nilIface] := by
   have := Blk.new ((w.alloc (.cells #[.string x.q.who.ty, .string x.q.who.id, .string x.q.act.ty, .string x.q.act.id, .string x.q.what.ty, .string x.q.what.id, .slice x.qa x.q.ctx.length x.qc] 39)).alloc (.cells #[.slice none 0 0] 22)) 27 #[.nilIface]
   rwa [World.size_alloc, World.size_alloc] at this
 have hb0 : RowKit.Below w.heap.size w (((w.alloc (.cells #[.string x.q.who.ty, .string x.q.who.id, .string x.q.act.ty, .string x.q.act.id, .string x.q.what.ty, .string x.q.what.id, .slice x.qa x.q.ctx.length x.qc] 39)).alloc (.cells #[.slice none 0 0] 22)).alloc (.cells #[.nilIface] 27)) := by (repeat (first | assumption | exact Below.refl _ _ | apply Below.drew | apply below_drewN | (refine Below.alloc ?_ (by first | exact Nat.le_refl _ | omega | (simp; done) | (simp; omega)) _)))
 have he0 : errV (entErr x.es) = .nilIface := by rw [h0]; rfl
 have he00 : errV (rqErr x.q) = .nilIface := by rw [h00]; rfl
 have he1 : errV (treeErr x.e) = .nilIface := by rw [h1]; rfl
 obtain ⟨hl200, hex⟩ := (tree_iff x.e).1 h1
 have HNX := Lib.hid (fun W (hb : RowKit.Below w.heap.size w W) => (next_all x hf 200 x.e hl200 hl200 hex) 0 W.heap.size [] (W.alloc (.cells (x.cells 0) 99)) (by simp) ((h.later hb).evin h0 h00 hl200 ((RowKit.Below.refl _ W).alloc (Nat.le_refl _) _)) (Blk.new W _ _))
 have hvv : ∀ v, evX x.es x.q x.e = .ok v → v.length ≤ 200 ∧ v ≠ [] := fun v hv => by
   have hv0 : valErr v = 0 := evE_vx h00 x.e.length x.e hex hv
   have h2 := (val_iff v).1 hv0
   obtain ⟨y, r, e, _⟩ := h2.2.ne
   exact ⟨h2.1, by rw [e]; simp⟩
 have HVL := Lib.hid (fun v (hv : evX x.es x.q x.e = .ok v) => (hvv v hv).1)
 have HNE := Lib.hid (fun v (hv : evX x.es x.q x.e = .ok v) => (hvv v hv).2)
 obtain ⟨q, hq⟩ : ∃ q, q = evX x.es x.q x.e := ⟨_, rfl⟩
 rw [← hq] at HNX HVL HNE ⊢
 clear hvv hq h0 h00 h1 hf hl200 hex
 clear h
 go_enter_defers Tryz.func19, Tryz.ntmps19
 go_wp2_with fail
 generalize (((w.alloc (.cells #[.string x.q.who.ty, .string x.q.who.id, .string x.q.act.ty, .string x.q.act.id, .string x.q.what.ty, .string x.q.what.id, .slice x.qa x.q.ctx.length x.qc] 39)).alloc (.cells #[.slice none 0 0] 22)).alloc (.cells #[.nilIface] 27)) = w1 at b0 b1 b2 hb0 ⊢
 have B01 := Lib.hid b0
 have B11 := Lib.hid b1
 have B21 := Lib.hid b2
 have BW1 := Lib.hid hb0
 clear b0 b1 b2 hb0
 refine (HE.out w1 BW1.out).mono ?_
 rintro r w2 ⟨hr, hb2⟩
 rw [he0] at hr
 subst hr
 have B02 := Lib.hid (B01.out.below hb2 B01.out.lt)
 have B12 := Lib.hid (B11.out.below hb2 B11.out.lt)
 have B22 := Lib.hid (B21.out.below hb2 B21.out.lt)
 have BW2 := Lib.hid (BW1.out.trans (hb2.mono BW1.out.size))
 clear hb2
 have q20 : w2.cell? ⟨w.heap.size, 0, none⟩ = some (.string x.q.who.ty) := B02.out.cell 0
 have q21 : w2.cell? ⟨w.heap.size, 1, none⟩ = some (.string x.q.who.id) := B02.out.cell 1
 have q22 : w2.cell? ⟨w.heap.size, 2, none⟩ = some (.string x.q.act.ty) := B02.out.cell 2
 have q23 : w2.cell? ⟨w.heap.size, 3, none⟩ = some (.string x.q.act.id) := B02.out.cell 3
 have q24 : w2.cell? ⟨w.heap.size, 4, none⟩ = some (.string x.q.what.ty) := B02.out.cell 4
 have q25 : w2.cell? ⟨w.heap.size, 5, none⟩ = some (.string x.q.what.id) := B02.out.cell 5
 have q26 : w2.cell? ⟨w.heap.size, 6, none⟩ = some (.slice x.qa x.q.ctx.length x.qc) := B02.out.cell 6
 go_wp2_with fail
 refine (HA.out w2 BW2.out).mono ?_
 rintro r w3 ⟨hr, hb3⟩
 rw [he00] at hr
 subst hr
 have B03 := Lib.hid (B02.out.below hb3 B02.out.lt)
 have B13 := Lib.hid (B12.out.below hb3 B12.out.lt)
 have B23 := Lib.hid (B22.out.below hb3 B22.out.lt)
 have BW3 := Lib.hid (BW2.out.trans (hb3.mono BW2.out.size))
 clear hb3
 go_wp2_with fail
 refine (HT.out w3 BW3.out).mono ?_
 rintro r w4 ⟨hr, hb4⟩
 rw [he1] at hr
 subst hr
 have B04 := Lib.hid (B03.out.below hb4 B03.out.lt)
 have B14 := Lib.hid (B13.out.below hb4 B13.out.lt)
 have B24 := Lib.hid (B23.out.below hb4 B23.out.lt)
 have BW4 := Lib.hid (BW3.out.trans (hb4.mono BW3.out.size))
 clear hb4
 have q40 : w4.cell? ⟨w.heap.size, 0, none⟩ = some (.string x.q.who.ty) := B04.out.cell 0
 have q41 : w4.cell? ⟨w.heap.size, 1, none⟩ = some (.string x.q.who.id) := B04.out.cell 1
 have q42 : w4.cell? ⟨w.heap.size, 2, none⟩ = some (.string x.q.act.ty) := B04.out.cell 2
 have q43 : w4.cell? ⟨w.heap.size, 3, none⟩ = some (.string x.q.act.id) := B04.out.cell 3
 have q44 : w4.cell? ⟨w.heap.size, 4, none⟩ = some (.string x.q.what.ty) := B04.out.cell 4
 have q45 : w4.cell? ⟨w.heap.size, 5, none⟩ = some (.string x.q.what.id) := B04.out.cell 5
 have q46 : w4.cell? ⟨w.heap.size, 6, none⟩ = some (.slice x.qa x.q.ctx.length x.qc) := B04.out.cell 6
 clear he0 he00 he1
 go_wp2_with fail
 refine (HNX.out w4 BW4.out).mono ?_
 rintro r w6 ⟨g1, g2, ho6⟩
 have hz4 := BW4.out.size
 have hB16 : Blk w6 (w.heap.size + 1) 22 #[.slice none 0 0] := (B14.out.alloc _).only ho6 (by have := B14.out.lt; simp; omega) (by have := B14.out.lt; omega)
 have hB26 : Blk w6 (w.heap.size + 1 + 1) 27 #[.nilIface] := (B24.out.alloc _).only ho6 (by have := B24.out.lt; simp; omega) (by have := B24.out.lt; omega)
 have hbw6 : RowKit.Below w.heap.size w w6 := (BW4.out.alloc BW4.out.size _).trans (ho6.below (by simp; omega) (by omega))
 have c1 : w6.cell? ⟨w.heap.size + 1, 0, none⟩ = some (.slice none 0 0) := hB16.cell 0
 have f1 : w6.frozen? ⟨w.heap.size + 1, 0, none⟩ = false := hB16.frozen 0
 have c2 : w6.cell? ⟨w.heap.size + 1 + 1, 0, none⟩ = some .nilIface := hB26.cell 0
 have f2 : w6.frozen? ⟨w.heap.size + 1 + 1, 0, none⟩ = false := hB26.frozen 0
 have BW6 := Lib.hid hbw6
 have HB16 := Lib.hid hB16
 have HB26 := Lib.hid hB26
 clear hB16 hB26 hbw6
 cases q with
 | bad k =>
   have hr := g2 k rfl
   subst hr
   clear g1 g2 ho6
   go_wp2_with fail
   refine leaves_cons (f := 50) (args := #[.pointer (some ⟨w.heap.size + 1, 0, none⟩), .pointer (some ⟨w.heap.size + 1 + 1, 0, none⟩)]) (by simp) (by simp [go_sem]) ?_
   refine (ev_catch ⟨w.heap.size + 1, 0, none⟩ ⟨w.heap.size + 1 + 1, 0, none⟩ _ _ k _ c1 f1 c2 f2 (by simp)).mono ?_
   rintro e' u' w'' ⟨rfl, rfl, rfl⟩
   have hcA : (w6.setCell ⟨w.heap.size + 1, 0, none⟩ (.slice none 0 0)).cell? ⟨w.heap.size + 1, 0, none⟩ = some (.slice none 0 0) := World.cell?_setCell_same _ _ _ c1
   have hcB : ((w6.setCell ⟨w.heap.size + 1, 0, none⟩ (.slice none 0 0)).setCell ⟨w.heap.size + 1 + 1, 0, none⟩ (.iface 96 (.int .i64 k))).cell? ⟨w.heap.size + 1 + 1, 0, none⟩ = some (.iface 96 (.int .i64 k)) :=
     World.cell?_setCell_same _ _ _ ((World.cell?_of_block (w := w6) (a := ⟨w.heap.size + 1 + 1, 0, none⟩) (RowKit.Below.heap_setCell _ _ _ _ (by simp))).trans c2)
   have hbF : RowKit.Below w.heap.size w ((w6.setCell ⟨w.heap.size + 1, 0, none⟩ (.slice none 0 0)).setCell ⟨w.heap.size + 1 + 1, 0, none⟩ (.iface 96 (.int .i64 k))) := (BW6.out.setCell (by simp) _).setCell (by show _ ≤ w.heap.size + 1 + 1; omega) _
   simp [Leaves, settle, results, Tryz.results19, go_sem, hcA, hcB, hbF]
 | ok v =>
   obtain ⟨A, c, rfl, k1, k2, k3, -⟩ := g1 v rfl
   have HCL := Lib.hid (clone_value v A c w6 k3.sl (HVL.out v rfl))
   clear g1 g2 ho6
   go_wp2_with fail
   refine HCL.out.mono ?_
   rintro r w7 ⟨A7, c7, rfl, l1, l2, l3, hb7⟩
   have d1 : w7.cell? ⟨w.heap.size + 1, 0, none⟩ = some (.slice none 0 0) := (HB16.out.below hb7 HB16.out.lt).cell 0
   have e1 : w7.frozen? ⟨w.heap.size + 1, 0, none⟩ = false := (HB16.out.below hb7 HB16.out.lt).frozen 0
   have d2 : w7.cell? ⟨w.heap.size + 1 + 1, 0, none⟩ = some .nilIface := (HB26.out.below hb7 HB26.out.lt).cell 0
   have e2 : w7.frozen? ⟨w.heap.size + 1 + 1, 0, none⟩ = false := (HB26.out.below hb7 HB26.out.lt).frozen 0
   have BW7 := Lib.hid (BW6.out.trans (hb7.mono BW6.out.size))
   have L3 := Lib.hid l3
   clear l3 hb7
   go_wp2_with fail
   refine leaves_cons (f := 50) (args := #[.pointer (some ⟨w.heap.size + 1, 0, none⟩), .pointer (some ⟨w.heap.size + 1 + 1, 0, none⟩)]) (by simp) (by simp [go_sem]) ?_
   refine (ev_idle ⟨w.heap.size + 1, 0, none⟩ ⟨w.heap.size + 1 + 1, 0, none⟩ _).mono ?_
   rintro e' u' w'' ⟨rfl, rfl, rfl⟩
   have hcA7 : (w7.setCell ⟨w.heap.size + 1, 0, none⟩ (.slice A7 v.length c7)).cell? ⟨w.heap.size + 1, 0, none⟩ = some (.slice A7 v.length c7) := World.cell?_setCell_same _ _ _ d1
   have hcB7 : ((w7.setCell ⟨w.heap.size + 1, 0, none⟩ (.slice A7 v.length c7)).setCell ⟨w.heap.size + 1 + 1, 0, none⟩ .nilIface).cell? ⟨w.heap.size + 1 + 1, 0, none⟩ = some .nilIface :=
     World.cell?_setCell_same _ _ _ ((World.cell?_of_block (w := w7) (a := ⟨w.heap.size + 1 + 1, 0, none⟩) (RowKit.Below.heap_setCell _ _ _ _ (by simp))).trans d2)
   have hbF : RowKit.Below w.heap.size w ((w7.setCell ⟨w.heap.size + 1, 0, none⟩ (.slice A7 v.length c7)).setCell ⟨w.heap.size + 1 + 1, 0, none⟩ .nilIface) := (BW7.out.setCell (by simp) _).setCell (by show _ ≤ w.heap.size + 1 + 1; omega) _
   have hz6 : w.heap.size + 1 + 1 < w6.heap.size := HB26.out.lt
   have hN : NdsNewE w (.returned (.tuple #[.slice A7 v.length c7, errV 0])) ((w7.setCell ⟨w.heap.size + 1, 0, none⟩ (.slice A7 v.length c7)).setCell ⟨w.heap.size + 1 + 1, 0, none⟩ .nilIface) v 0 := by
     obtain ⟨b, o, e1', e2', e3', e4'⟩ := L3.out (fun b => b < w6.heap.size) (fun b h => h) (HNE.out v rfl)
     have hc : ∀ i, ((w7.setCell ⟨w.heap.size + 1, 0, none⟩ (.slice A7 v.length c7)).setCell ⟨w.heap.size + 1 + 1, 0, none⟩ .nilIface).cell? ⟨b, i, none⟩ = w7.cell? ⟨b, i, none⟩ := fun i =>
       World.cell?_of_block (w := w7) (a := ⟨b, i, none⟩) ((RowKit.Below.heap_setCell _ _ _ _ (by show b ≠ w.heap.size + 1 + 1; omega)).trans (RowKit.Below.heap_setCell _ _ _ _ (by show b ≠ w.heap.size + 1; omega)))
     refine ⟨A7, c7, rfl, l1, l2, fun _ => ⟨b, o, e1', by simpa [World.setCell] using e2', fun i y hy => ?_⟩, hbF, fun b' o' e => ?_⟩
     · obtain ⟨q0, q1, q2, q3⟩ := e4' i y hy
       exact ⟨(hc _).trans q0, (hc _).trans q1, (hc _).trans q2, (hc _).trans q3⟩
     · rw [e] at e1'; injection e1' with e1'; injection e1' with e1' _; omega
   simp [Leaves, settle, results, Tryz.results19, go_sem, hcA7, hcB7]
   exact hN
end Go.Proofs.YtpheiojmcafolaaGreatDoor
namespace Go.Proofs.YtpheiojmcafolaaGreatDoor
set_option maxRecDepth 100000
def BadNZ {α : Type} (r : Rs α) : Prop := ∀ k, r = .bad k → k ≠ 0
theorem nz_ok {α : Type} (v : α) : BadNZ (.ok v) := fun _ h => nomatch h
theorem nz_bad {α : Type} {k : Int} (h : k ≠ 0) : BadNZ (.bad k : Rs α) := fun j e => by injection e with e; rw [← e]; exact h
theorem nz_guard {α : Type} {k : Int} {b : Rs α} (hb : BadNZ b) : BadNZ (if k ≠ 0 then .bad k else b) := by
 by_cases h : k ≠ 0
 · rw [if_pos h]; exact nz_bad h
 · rw [if_neg h]; exact hb
theorem nz_ite {α : Type} {c : Prop} [Decidable c] {a b : Rs α} (ha : BadNZ a) (hb : BadNZ b) : BadNZ (if c then a else b) := by
 by_cases h : c
 · rw [if_pos h]; exact ha
 · rw [if_neg h]; exact hb
theorem nz_bind {α β : Type} {r : Rs α} {f : α → Rs β} (hr : BadNZ r) (hf : ∀ v, BadNZ (f v)) : BadNZ (r.bind f) := by
 cases r with
 | ok v => exact hf v
 | bad k => exact nz_bad (hr k rfl)
theorem nz_must {r : Rs (List Nd)} {op : Int} (h : BadNZ r) : BadNZ (mustV r op) := nz_bind h fun v => nz_ite (nz_ok _) (nz_bad (by decide))
theorem nz_num (op a b : Int) : BadNZ (numR op a b) := nz_ite (nz_ite (nz_ok _) (nz_bad (by decide))) (nz_ite (nz_ite (nz_ok _) (nz_bad (by decide))) (nz_ite (nz_ite (nz_ok _) (nz_bad (by decide))) (nz_bad (by decide))))
theorem nz_like (p s : List UInt8) : BadNZ (likeR p s) := nz_guard (nz_guard (nz_ok _))
theorem nz_parts (v : List Nd) : BadNZ (partsR v) := nz_guard (nz_ite (nz_ok _) (nz_ite (nz_ok _) (nz_bad (by decide))))
theorem nz_get (v : List Nd) (s : ByteArray) : BadNZ (getR v s) := fun _ h => getR_bad h
theorem nz_recOf (es : List En) (v : List Nd) : BadNZ (recOf es v) := fun _ h => by rw [recOf_bad h]; decide
theorem nz_set (vs : List (List Nd)) : BadNZ (setR vs) := fun _ h => set_bad h
theorem nz_rec (fs : List (ByteArray × List Nd)) : BadNZ (recR fs) := fun _ h => rec_bad h
theorem nz_single (es : List En) (x : Nd) (v : List Nd) : BadNZ (singleR es x v) :=
 nz_ite (nz_bind (nz_must (nz_ok _)) fun _ => nz_ok _) (nz_ite (nz_bind (nz_must (nz_ok _)) fun _ => nz_bind (nz_num _ _ _) fun _ => nz_ok _)
   (nz_ite (nz_bind (nz_must (nz_ok _)) fun _ => nz_bind (nz_like _ _) fun _ => nz_ok _) (nz_ite (nz_bind (nz_must (nz_ok _)) fun _ => nz_ok _)
     (nz_bind (nz_recOf _ _) fun r => by
       cases r with
       | none => exact nz_ite (nz_ok _) (nz_bad (by decide))
       | some r =>
         refine nz_ite ?_ (nz_get _ _)
         cases getR r x.s with
         | ok _ => exact nz_ok _
         | bad _ => exact nz_ok _))))
theorem nz_bagTwo (f : List (List Nd) → List (List Nd) → Bool) (a b : List Nd) : BadNZ (bagTwo f a b) := by
 unfold bagTwo
 repeat (first | exact nz_ok _ | exact nz_bad (by decide) | refine nz_guard ?_ | refine nz_ite ?_ ?_ | refine nz_bind (nz_parts _) fun _ => ?_)
theorem nz_bagHas (a b : List Nd) : BadNZ (bagHas a b) := by
 unfold bagHas
 repeat (first | exact nz_ok _ | exact nz_bad (by decide) | refine nz_guard ?_ | refine nz_ite ?_ ?_ | refine nz_bind (nz_parts _) fun _ => ?_)
theorem nz_in (es : List En) (a b : List Nd) : BadNZ (inR' es a b) :=
 nz_bind (nz_must (nz_ok _)) fun _ => nz_bind (nz_ite (nz_parts _) (nz_ok _)) fun _ => nz_ite (nz_ok _) (nz_bad (by decide))
theorem nz_double (es : List En) (op : Int) (a b : List Nd) : BadNZ (doubleR es op a b) :=
 nz_ite (nz_ok _) (nz_ite (nz_bind (nz_in _ _ _) fun _ => nz_ok _) (nz_ite (nz_bind (nz_bagHas _ _) fun _ => nz_ok _) (nz_ite (nz_bind (nz_bagTwo _ _ _) fun _ => nz_ok _) (nz_ite (nz_bind (nz_bagTwo _ _ _) fun _ => nz_ok _)
   (nz_bind (nz_must (nz_ok _)) fun _ => nz_bind (nz_must (nz_ok _)) fun _ => nz_ite (nz_ok _) (nz_ite (nz_ok _) (nz_bind (nz_num _ _ _) fun _ => nz_ok _)))))))
theorem nz_named (q : Rq) (s : List UInt8) : BadNZ (namedR q s) := nz_ite (nz_ok _) (nz_ite (nz_ok _) (nz_ite (nz_ok _) (nz_ite (nz_ok _) (nz_bad (by decide)))))
theorem nz_either {op : Int} {a b : Rs (List Nd)} (ha : BadNZ a) (hb : BadNZ b) : BadNZ (eitherR op a b) := nz_bind (nz_must ha) fun _ => nz_ite (nz_ok _) (nz_must hb)
theorem nz_choice {c a b : Rs (List Nd)} (hc : BadNZ c) (ha : BadNZ a) (hb : BadNZ b) : BadNZ (choiceR c a b) := nz_bind (nz_must hc) fun _ => nz_ite ha hb
theorem nz_all {α : Type} : ∀ {l : List (Rs α)}, (∀ r ∈ l, BadNZ r) → BadNZ (allR l)
 | [], _ => nz_ok _
 | r :: l, h => nz_bind (h r (by simp)) fun _ => nz_bind (nz_all fun q hq => h q (by simp [hq])) fun _ => nz_ok _
theorem nz_ev (es : List En) (q : Rq) : ∀ (N : Nat) (xs : List Nd), xs.length ≤ N → Ex (.one false) xs → BadNZ (evX es q xs)
 | 0, xs, hN, h => by
   obtain ⟨y, r, e, _⟩ := ex_ne h
   rw [e] at hN; simp at hN
 | N + 1, xs, hN, h => by
   cases h with
   | one n body _ hs h7 hb =>
     obtain ⟨ps, hc, hfl, hK⟩ := ex_pieces hb
     subst hfl
     have hex := exk_all hK
     have h7' : ¬ n.op = 7 := by simpa using h7
     rw [List.length_cons] at hN
     have hin : ∀ p ∈ ps, ¬ n.op = 6 → Ex (.one false) p := fun p hp h6 => by
       have := hex p hp
       rwa [show (n.op == 6) = false by simp [h6]] at this
     have ih : ¬ n.op = 6 → ∀ p ∈ ps, BadNZ (evX es q p) := fun h6 p hp => by
       have := part_le hp
       exact nz_ev es q N p (by omega) (hin p hp h6)
     have hcase : (n.op = 1 ∨ n.op = 2 ∨ n.op = 3 ∨ n.op = 4 ∨ n.op = 8) ∧ ps.length = 0 ∨ (n.op = 5 ∨ n.op = 6) ∧ n.n = ps.length ∨ (n.op = 9 ∨ n.op = 10 ∨ n.op = 21 ∨ n.op = 22 ∨ n.op = 23 ∨ n.op = 24) ∧ ps.length = 1 ∨
         (n.op = 11 ∨ n.op = 12 ∨ n.op = 14 ∨ n.op = 15 ∨ n.op = 16 ∨ n.op = 17 ∨ n.op = 18 ∨ n.op = 19 ∨ n.op = 20 ∨ n.op = 25 ∨ n.op = 26 ∨ n.op = 27) ∧ ps.length = 2 ∨ n.op = 13 ∧ ps.length = 3 := by
       unfold ndParts at hc
       unfold shapedT at hs
       by_cases a1 : n.op = 1 ∨ n.op = 2 ∨ n.op = 3 ∨ n.op = 4 ∨ n.op = 8
       · rw [if_pos a1] at hc; left; exact ⟨a1, by simpa using hc⟩
       rw [if_neg a1] at hc
       by_cases a2 : n.op = 5 ∨ n.op = 6
       · rw [if_pos a2] at hc
         rw [if_neg (by omega), if_pos a2] at hs
         simp only [Bool.and_eq_true, decide_eq_true_eq] at hs
         right; left; exact ⟨a2, by have := hs.1.1; omega⟩
       rw [if_neg a2] at hc
       by_cases a3 : n.op = 7 ∨ n.op = 9 ∨ n.op = 10 ∨ n.op = 21 ∨ n.op = 22 ∨ n.op = 23 ∨ n.op = 24
       · rw [if_pos a3] at hc; right; right; left; exact ⟨by omega, by simpa using hc⟩
       rw [if_neg a3] at hc
       by_cases a4 : n.op = 11 ∨ n.op = 12 ∨ n.op = 14 ∨ n.op = 15 ∨ n.op = 16 ∨ n.op = 17 ∨ n.op = 18 ∨ n.op = 19 ∨ n.op = 20 ∨ n.op = 25 ∨ n.op = 26 ∨ n.op = 27
       · rw [if_pos a4] at hc; right; right; right; left; exact ⟨a4, by simpa using hc⟩
       rw [if_neg a4] at hc
       by_cases a5 : n.op = 13
       · rw [if_pos a5] at hc; right; right; right; right; exact ⟨a5, by simpa using hc⟩
       · exfalso
         rw [if_neg (by omega), if_neg a2, if_neg (by omega), if_neg (by omega), if_neg (by omega)] at hs
         simp only [Bool.and_eq_true, decide_eq_true_eq] at hs
         have h1 := hs.1.1.1
         unfold ndParts at h1
         rw [if_neg a1, if_neg a2, if_neg a3, if_neg a4, if_neg a5] at h1
         omega
     rcases hcase with ⟨ho, hlen⟩ | ⟨ho, hn⟩ | ⟨ho, hlen⟩ | ⟨ho, hlen⟩ | ⟨ho, hlen⟩
     · obtain rfl := List.eq_nil_of_length_eq_zero hlen
       rw [List.flatten_nil]
       rcases (show (n.op = 1 ∨ n.op = 2 ∨ n.op = 3 ∨ n.op = 4) ∨ n.op = 8 by omega) with e | e
       · rw [evX_leaf es q e]; exact nz_ok _
       · rw [evX_var es q e]; exact nz_named _ _
     · rw [evX_node es q hex]
       unfold nodeR
       rw [if_neg (by omega), if_neg (by omega)]
       by_cases h6 : n.op = 6
       · rw [show (n.op == 5) = false by simp [h6], show (n.op == 6) = true by simp [h6]]
         refine nz_bind (nz_all fun r hr => ?_) fun _ => nz_rec _
         obtain ⟨p, hp, rfl⟩ := List.mem_map.1 hr
         have h1 := hex p hp
         rw [show (n.op == 6) = true by simp [h6]] at h1
         obtain ⟨g1, g2⟩ := fld_tail h1
         have := part_le hp
         exact nz_ev es q N p.tail (by omega) g1
       · have h5 : n.op = 5 := by omega
         rw [show (n.op == 5) = true by simp [h5], show (n.op == 6) = false by simp [h6]]
         refine nz_bind (nz_all fun r hr => ?_) fun _ => nz_set _
         obtain ⟨p, hp, rfl⟩ := List.mem_map.1 hr
         exact ih h6 p hp
     · match ps, hlen with
       | [a], _ =>
         have h6 : ¬ n.op = 6 := by omega
         rw [show [a].flatten = a by simp, evX_one es q ho (hin a (by simp) h6)]
         exact nz_bind (ih h6 a (by simp)) fun _ => nz_single _ _ _
     · match ps, hlen with
       | [a, b], _ =>
         have h6 : ¬ n.op = 6 := by omega
         rw [show [a, b].flatten = a ++ b by simp]
         by_cases h11 : n.op = 11 ∨ n.op = 12
         · rw [evX_and es q h11 (hin a (by simp) h6) (hin b (by simp) h6)]
           exact nz_either (ih h6 a (by simp)) (ih h6 b (by simp))
         · rw [evX_two es q (by omega) (hin a (by simp) h6) (hin b (by simp) h6)]
           exact nz_bind (ih h6 a (by simp)) fun _ => nz_bind (ih h6 b (by simp)) fun _ => nz_double _ _ _ _
     · match ps, hlen with
       | [c, a, b], _ =>
         have h6 : ¬ n.op = 6 := by omega
         rw [show [c, a, b].flatten = c ++ (a ++ b) by simp, evX_if es q ho (hin c (by simp) h6) (hin a (by simp) h6) (hin b (by simp) h6)]
         exact nz_choice (ih h6 c (by simp)) (ih h6 a (by simp)) (ih h6 b (by simp))
end Go.Proofs.YtpheiojmcafolaaGreatDoor
namespace Go.Proofs.YtpheiojmcafolaaGreatDoor
set_option maxRecDepth 100000
open Go.RowKit Go.Sort
theorem few_of {e : List Nd} (h0 : treeErr e = 0) : ∀ y ∈ e, 0 ≤ ndParts y ∧ ndParts y ≤ 200 := fun y hy => by
 obtain ⟨j, hj⟩ := List.getElem?_of_mem hy
 obtain ⟨s, hs, hsl⟩ := tree_at h0 hj
 obtain ⟨_, _, q1, q2⟩ := bGo_parts hs hj
 have := (tree_len h0).1
 omega
theorem eval_Value (x : Evl) (w : World) (h : VaIn x w) :
   Calls Tryz.prog 19 #[.slice x.Ea x.hs.length x.ec, .agg #[.string x.q.who.ty, .string x.q.who.id, .string x.q.act.ty, .string x.q.act.id, .string x.q.what.ty, .string x.q.what.id, .slice x.qa x.q.ctx.length x.qc], .slice x.ea x.e.length x.eca] w fun r w' => NdsNewE w r w' (rsL (valueR x.es x.q x.e)) (rsE (valueR x.es x.q x.e)) := by
 unfold valueR
 by_cases h1 : entErr x.es = 0
 case neg =>
   rw [if_pos h1]
   refine (value_1 x w h h1).mono ?_
   rintro r w' ⟨rfl, hb⟩
   exact NdsNewE.none hb
 rw [if_neg (by simp [h1])]
 by_cases h2 : rqErr x.q = 0
 case neg =>
   rw [if_pos h2]
   refine (value_2 x w h h1 h2).mono ?_
   rintro r w' ⟨rfl, hb⟩
   exact NdsNewE.none hb
 rw [if_neg (by simp [h2])]
 by_cases h3 : treeErr x.e = 0
 case neg =>
   rw [if_pos h3]
   refine (value_3 x w h h1 h2 h3).mono ?_
   rintro r w' ⟨rfl, hb⟩
   exact NdsNewE.none hb
 rw [if_neg (by simp [h3])]
 refine (value_4 x w h h1 h2 h3 (few_of h3)).mono ?_
 rintro r w' ⟨g1, g2⟩
 have hne : ∀ k, evE x.es x.q x.e.length x.e = .bad k → k ≠ 0 := fun k hk => nz_ev x.es x.q _ x.e (Nat.le_refl _) ((tree_iff x.e).1 h3).2 k hk
 cases hq : evE x.es x.q x.e.length x.e with
 | ok v => exact g1 v hq
 | bad k =>
   obtain ⟨rfl, hb⟩ := g2 k hq
   have := NdsNewE.none (k := k) hb
   unfold errV at this
   rw [if_neg (hne k hq)] at this
   exact this
end Go.Proofs.YtpheiojmcafolaaGreatDoor
namespace Go.Proofs.YtpheiojmcafolaaGreatDoor
set_option maxRecDepth 100000
open Go.RowKit Go.Sort
set_option maxHeartbeats 3200000 in
theorem auth_first (k1 k2 k3 : Int) (b c : Nat) (w : World) (h1 : w.cell? ⟨b, 0, none⟩ = some (errV k1)) (h2 : w.cell? ⟨b, 1, none⟩ = some (errV k2)) (h3 : w.cell? ⟨b, 2, none⟩ = some (errV k3)) :
   Calls Tryz.prog 71 #[.slice (some ⟨b, 0, none⟩) 3 c] w fun r w' => r = .returned (errV (if k1 ≠ 0 then k1 else if k2 ≠ 0 then k2 else k3)) ∧ w' = w := by
 obtain ⟨k, hk⟩ : ∃ k, k = if k1 ≠ 0 then k1 else if k2 ≠ 0 then k2 else k3 := ⟨_, rfl⟩
 rw [← hk]
 have HK := Lib.hid hk
 clear hk
 go_enter Tryz.func71, Tryz.ntmps71
 go_wp2_with fail
 refine wp_loop_rounds 4 ?_
 by_cases g1 : k1 = 0
 case neg =>
   have t1 : (k1 != 0) = true := by simpa using g1
   obtain rfl : k = k1 := by rw [HK.out, if_pos g1]
   clear HK g1
   rw [rounds_succ]
   go_wp2_with fail
   go_ret
   exact ⟨rfl, rfl⟩
 have t1 : (k1 != 0) = false := by simpa using g1
 have HG1 := Lib.hid g1
 clear g1
 rw [rounds_succ]
 go_wp2_with fail
 by_cases g2 : k2 = 0
 case neg =>
   have t2 : (k2 != 0) = true := by simpa using g2
   obtain rfl : k = k2 := by rw [HK.out, if_neg (by simp [HG1.out]), if_pos g2]
   clear HK g2
   rw [rounds_succ]
   go_wp2_with fail
   go_ret
   exact ⟨rfl, rfl⟩
 have t2 : (k2 != 0) = false := by simpa using g2
 obtain rfl : k = k3 := by rw [HK.out, if_neg (by simp [HG1.out]), if_neg (by simp [g2])]
 clear HK g2 HG1
 rw [rounds_succ]
 go_wp2_with fail
 by_cases g3 : k = 0
 case neg =>
   have t3 : (k != 0) = true := by simpa using g3
   clear g3
   rw [rounds_succ]
   go_wp2_with fail
   go_ret
   exact ⟨rfl, rfl⟩
 subst g3
 have t3 : ((0 : Int) != 0) = false := rfl
 rw [rounds_succ]
 go_wp2_with fail
 rw [rounds_succ]
 go_wp2_with fail
 go_ret
 exact ⟨rfl, rfl⟩
end Go.Proofs.YtpheiojmcafolaaGreatDoor
namespace Go.Proofs.YtpheiojmcafolaaGreatDoor
open Go.RowKit
theorem one_valM {x : Nd} (h : x.op = 1 ∨ x.op = 2 ∨ x.op = 3 ∨ x.op = 4) : (valErr [x] == 0) = shapedV x := by
 have h5 : ¬ x.op = 5 := by omega
 have h6 : ¬ x.op = 6 := by omega
 have h7 : ¬ x.op = 7 := by omega
 cases hs : shapedV x <;> simp [valErr, vGo, hs, h5, h6, h7]
theorem shaped_low {x : Nd} (h : x.op = 1 ∨ x.op = 2 ∨ x.op = 3 ∨ x.op = 4) : shapedT x = shapedV x := by
 unfold shapedT; rw [if_pos h, one_valM h]
theorem name_le {l : List UInt8} (h : nameErr l = 0) : l.length ≤ 20 := by
 cases l with
 | nil => simp
 | cons a r =>
   have e : nameErr (a :: r) = if letterI (a.toNat : Int) = false then 1 else if (a :: r).all nameB = false then 1 else if 20 < (a :: r).length then 4 else 0 := rfl
   rw [e] at h
   split at h
   · cases h
   · split at h
     · cases h
     · split at h
       · cases h
       · omega
theorem text_le {l : List UInt8} (h : textErr l = 0) : l.length ≤ 60 := by
 unfold textErr at h
 split at h
 · cases h
 · omega
theorem var_le {l : List UInt8} (h : variableB l = true) : l.length ≤ 21 := by
 cases l with
 | nil => simp
 | cons a r =>
   have e : variableB (a :: r) = if a = 63 then nameErr r == 0 else nameErr (a :: r) == 0 && !reserved (a :: r) := rfl
   rw [e] at h
   split at h
   · have := name_le (by simpa using h); simp; omega
   · simp only [Bool.and_eq_true, beq_iff_eq] at h
     have := name_le h.1; omega
theorem shaped_le {x : Nd} (h : shapedT x = true) : x.s.size ≤ 60 ∧ x.t.size ≤ 60 := by
 rw [← toList_len x.s, ← toList_len x.t]
 by_cases h4 : x.op = 1 ∨ x.op = 2 ∨ x.op = 3 ∨ x.op = 4
 · rw [shaped_low h4] at h
   unfold shapedV at h
   rcases h4 with e | e | e | e <;> rw [e] at h <;> simp [-List.length_eq_zero_iff] at h
   · rw [h.1.2, h.2]; simp
   · rw [h.1, h.2]; simp
   · rw [h.1.2]; exact ⟨text_le h.2, by simp⟩
   · exact ⟨Nat.le_trans (name_le h.1.2) (by omega), text_le h.2⟩
 unfold shapedT at h
 rw [if_neg h4] at h
 split at h
 · simp at h; rw [h.1.2, h.2]; simp
 split at h
 · simp at h; rw [h.1.2]; exact ⟨Nat.le_trans (var_le h.2) (by omega), by simp⟩
 split at h
 · simp at h; rw [h.1.2]; exact ⟨Nat.le_trans (name_le h.2) (by omega), by simp⟩
 split at h
 · simp at h; rw [h.1.2]; exact ⟨text_le h.2, by simp⟩
 · simp at h; rw [h.1.2, h.2]; simp
theorem ex_shaped {t : BTag} {xs : List Nd} (h : Ex t xs) : ∀ n ∈ xs, shapedT n = true := by
 induction h with
 | one n body fld hs _ _ ih =>
   intro m hm
   rcases List.mem_cons.1 hm with rfl | hm
   · exact hs
   · exact ih m hm
 | nil => simp
 | cons c r l m xs ys _ _ _ ih1 ih2 =>
   intro n hn
   rcases List.mem_append.1 hn with hn | hn
   · exact ih1 n hn
   · exact ih2 n hn
theorem tree_ok {e : List Nd} (h : treeErr e = 0) : NdOk e := fun x hx => by
 obtain ⟨h1, h2⟩ := shaped_le (ex_shaped ((tree_iff _).1 h).2 x hx)
 exact ⟨by omega, by omega⟩
end Go.Proofs.YtpheiojmcafolaaGreatDoor
namespace Go.Proofs.YtpheiojmcafolaaGreatDoor
open Go.RowKit
theorem few_parts {e : List Nd} (h0 : treeErr e = 0) : ∀ y ∈ e, 0 ≤ ndParts y ∧ ndParts y ≤ 200 := fun y hy => by
 obtain ⟨j, hj⟩ := List.getElem?_of_mem hy
 obtain ⟨s, hs, hsl⟩ := tree_at h0 hj
 obtain ⟨_, _, q1, q2⟩ := bGo_parts hs hj
 have := (tree_len h0).1
 omega
theorem shaped_n {x : Nd} (hs : shapedT x = true) (hp : 0 ≤ ndParts x ∧ ndParts x ≤ 200) (h2 : ¬ x.op = 2) : I64 x.n := by
 have hb : ∀ {a b : Bool}, (a && b) = true → a = true ∧ b = true := fun h => by simpa using h
 unfold I64
 unfold shapedT at hs
 split at hs
 · rename_i h1
   rw [one_valM h1] at hs
   unfold shapedV at hs
   rcases h1 with h | h | h | h
   · rw [if_pos h] at hs
     have := (hb (hb hs).1).1
     simp at this; omega
   · exact absurd h h2
   · rw [if_neg (by omega), if_neg (by omega), if_pos h] at hs
     have := (hb (hb hs).1).1
     simp at this; omega
   · rw [if_neg (by omega), if_neg (by omega), if_neg (by omega), if_pos h] at hs
     have := (hb (hb hs).1).1
     simp at this; omega
 · split at hs
   · rename_i h1 h5
     have : ndParts x = x.n := by unfold ndParts; rw [if_neg (by omega), if_pos h5]
     omega
   · split at hs
     · have := (hb (hb hs).1).1
       simp at this; omega
     · split at hs
       · have := (hb (hb hs).1).1
         simp at this; omega
       · split at hs
         · have := (hb (hb hs).1).1
           simp at this; omega
         · have := (hb (hb (hb hs).1).1).2
           simp at this; omega
theorem tree_i64 {e : List Nd} (h : treeErr e = 0) (h2 : ∀ x ∈ e, x.op = 2 → I64 x.n) : NdI e := fun x hx => by
 by_cases h2' : x.op = 2
 · exact h2 x hx h2'
 · exact shaped_n (ex_shaped ((tree_iff e).1 h).2 x hx) (few_parts h x hx) h2'
end Go.Proofs.YtpheiojmcafolaaGreatDoor
namespace Go.Proofs.YtpheiojmcafolaaGreatDoor
open Go.RowKit
section
variable {α : Type} (nm : α → List UInt8) (fb : α → Bool) (pe1 pe2 : α → Int) (vt : α → Int)
def authGo : List α → List (List UInt8) → Int
 | [], _ => 0
 | p :: r, met => if pe1 p ≠ 0 then pe1 p else if nm p ∈ met then 6 else if pe2 p ≠ 0 then pe2 p else authGo r (met ++ [nm p])
def authErr (ps : List α) : Int := if 12 < ps.length then 4 else authGo nm pe1 pe2 ps []
theorem authGo_ok : ∀ (ps : List α) (met : List (List UInt8)), authGo nm pe1 pe2 ps met = 0 ↔ (∀ p ∈ ps, pe1 p = 0 ∧ pe2 p = 0 ∧ nm p ∉ met) ∧ (ps.map nm).Nodup
 | [], met => by simp [authGo]
 | p :: r, met => by
   rw [authGo]
   by_cases h1 : pe1 p = 0
   · rw [if_neg (by simp [h1])]
     by_cases h2 : nm p ∈ met
     · rw [if_pos h2]; simp [h2]
     · rw [if_neg h2]
       by_cases h3 : pe2 p = 0
       · rw [if_neg (by simp [h3]), authGo_ok r]
         simp only [List.mem_cons, List.map_cons, List.nodup_cons, List.mem_append, List.mem_map, List.not_mem_nil, or_false, not_or]
         constructor
         · rintro ⟨h, hn⟩
           refine ⟨?_, ?_, hn⟩
           · rintro q (rfl | hq)
             · exact ⟨h1, h3, h2⟩
             · have := h q hq; exact ⟨this.1, this.2.1, this.2.2.1⟩
           · rintro ⟨q, hq, e⟩; exact (h q hq).2.2.2 e
         · rintro ⟨h, hp, hn⟩
           refine ⟨fun q hq => ?_, hn⟩
           have := h q (.inr hq)
           exact ⟨this.1, this.2.1, this.2.2, fun e => hp ⟨q, hq, e⟩⟩
       · rw [if_pos h3]; simp [h3]
   · rw [if_pos h1]; simp [h1]
theorem auth_ok (ps : List α) : authErr nm pe1 pe2 ps = 0 ↔ ps.length ≤ 12 ∧ (∀ p ∈ ps, pe1 p = 0 ∧ pe2 p = 0) ∧ (ps.map nm).Nodup := by
 unfold authErr
 by_cases h : 12 < ps.length
 · rw [if_pos h]; simp; omega
 · rw [if_neg h, authGo_ok]
   simp only [List.not_mem_nil, not_false_eq_true, and_true]
   constructor
   · rintro ⟨a, b⟩; exact ⟨by omega, a, b⟩
   · rintro ⟨-, a, b⟩; exact ⟨a, b⟩
def forbids (ps : List α) : List (List UInt8) := (ps.filter fun p => vt p == 1 && fb p).map nm
def permits (ps : List α) : List (List UInt8) := (ps.filter fun p => vt p == 1 && !fb p).map nm
def wrongs (ps : List α) : List (List UInt8) := (ps.filter fun p => vt p == -1).map nm
def byP (ps : List α) : List (List UInt8) := if forbids nm fb vt ps = [] then permits nm fb vt ps else forbids nm fb vt ps
def allowP (ps : List α) : Bool := (forbids nm fb vt ps).isEmpty && !(permits nm fb vt ps).isEmpty
variable {nm fb pe1 pe2 vt}
theorem forbids_nil {ps : List α} : forbids nm fb vt ps = [] ↔ ∀ p ∈ ps, ¬ (vt p = 1 ∧ fb p = true) := by
 unfold forbids; simp [List.filter_eq_nil_iff]
theorem permits_nil {ps : List α} : permits nm fb vt ps = [] ↔ ∀ p ∈ ps, ¬ (vt p = 1 ∧ fb p = false) := by
 unfold permits; simp [List.filter_eq_nil_iff]
theorem allow_iff {ps : List α} : allowP nm fb vt ps = true ↔ (∃ p ∈ ps, vt p = 1 ∧ fb p = false) ∧ ∀ p ∈ ps, ¬ (vt p = 1 ∧ fb p = true) := by
 unfold allowP
 rw [Bool.and_eq_true, List.isEmpty_iff, forbids_nil, Bool.not_eq_true', ← Bool.not_eq_true, List.isEmpty_iff, permits_nil]
 constructor
 · rintro ⟨h1, h2⟩
   refine ⟨?_, h1⟩
   apply Classical.byContradiction
   intro h
   exact h2 fun p hp hv => h ⟨p, hp, hv⟩
 · rintro ⟨⟨p, hp, hv⟩, h1⟩
   exact ⟨h1, fun h => h p hp hv⟩
theorem mem_forbids {ps : List α} {s : List UInt8} : s ∈ forbids nm fb vt ps ↔ ∃ p ∈ ps, vt p = 1 ∧ fb p = true ∧ nm p = s := by
 unfold forbids; simp [and_assoc]
theorem mem_permits {ps : List α} {s : List UInt8} : s ∈ permits nm fb vt ps ↔ ∃ p ∈ ps, vt p = 1 ∧ fb p = false ∧ nm p = s := by
 unfold permits; simp [and_assoc]
theorem nm_inj : ∀ {ps : List α}, (ps.map nm).Nodup → ∀ {p q : α}, p ∈ ps → q ∈ ps → nm p = nm q → p = q
 | [], _, _, _, h, _, _ => by cases h
 | x :: r, hn, p, q, hp, hq, e => by
   rw [List.map_cons, List.nodup_cons] at hn
   rcases List.mem_cons.1 hp with rfl | hp'
   · rcases List.mem_cons.1 hq with rfl | hq'
     · rfl
     · exact absurd (e ▸ List.mem_map_of_mem hq') hn.1
   · rcases List.mem_cons.1 hq with rfl | hq'
     · exact absurd (e ▸ List.mem_map_of_mem hp') hn.1
     · exact nm_inj hn.2 hp' hq' e
theorem by_perm {ps qs : List α} (h : ps.Perm qs) : (byP nm fb vt ps).Perm (byP nm fb vt qs) ∧ (wrongs nm vt ps).Perm (wrongs nm vt qs) ∧ allowP nm fb vt ps = allowP nm fb vt qs := by
 have hf : (forbids nm fb vt ps).Perm (forbids nm fb vt qs) := (h.filter _).map _
 have hp : (permits nm fb vt ps).Perm (permits nm fb vt qs) := (h.filter _).map _
 have hw : (wrongs nm vt ps).Perm (wrongs nm vt qs) := (h.filter _).map _
 refine ⟨?_, hw, ?_⟩
 · unfold byP
   by_cases h0 : forbids nm fb vt ps = []
   · have h1 : forbids nm fb vt qs = [] := List.Perm.eq_nil (h0 ▸ hf.symm)
     rw [if_pos h0, if_pos h1]; exact hp
   · have h1 : ¬ forbids nm fb vt qs = [] := fun e => h0 (List.Perm.eq_nil (e ▸ hf))
     rw [if_neg h0, if_neg h1]; exact hf
 · rw [Bool.eq_iff_iff, allow_iff, allow_iff]
   simp only [h.mem_iff]
theorem alone_allow {p : α} : allowP nm fb vt [p] = true ↔ vt p = 1 ∧ fb p = false := by
 rw [allow_iff]; simp
 intro h1 h2; simp [h2]
theorem alone_by {p : α} : (byP nm fb vt [p]).length = if vt p = 1 then 1 else 0 := by
 unfold byP forbids permits
 by_cases h : vt p = 1
 · cases hf : fb p <;> simp [h, hf]
 · simp [h]
theorem apart {ps : List α} (hn : (ps.map nm).Nodup) : byP nm fb vt (ps.filter fun p => (byP nm fb vt ps).contains (nm p)) = byP nm fb vt ps ∧
   allowP nm fb vt (ps.filter fun p => (byP nm fb vt ps).contains (nm p)) = allowP nm fb vt ps ∧ wrongs nm vt (ps.filter fun p => (byP nm fb vt ps).contains (nm p)) = [] := by
 by_cases h0 : forbids nm fb vt ps = []
 · have hb : byP nm fb vt ps = permits nm fb vt ps := by unfold byP; rw [if_pos h0]
   have hk : (ps.filter fun p => (byP nm fb vt ps).contains (nm p)) = ps.filter fun p => vt p == 1 && !fb p := by
     refine List.filter_congr fun p hp => ?_
     rw [hb, Bool.eq_iff_iff, List.contains_iff_mem, mem_permits]
     simp only [Bool.and_eq_true, beq_iff_eq, Bool.not_eq_true']
     constructor
     · rintro ⟨q, hq, hv, hf, e⟩; rw [← nm_inj hn hq hp e]; exact ⟨hv, hf⟩
     · rintro ⟨hv, hf⟩; exact ⟨p, hp, hv, hf, rfl⟩
   rw [hk]
   have hf : forbids nm fb vt (ps.filter fun p => vt p == 1 && !fb p) = [] := by
     rw [forbids_nil]; intro p hp; simp at hp; simp [hp.2.2]
   have hpm : permits nm fb vt (ps.filter fun p => vt p == 1 && !fb p) = permits nm fb vt ps := by
     unfold permits; rw [List.filter_filter]; congr 1; refine List.filter_congr fun p _ => ?_; simp
   refine ⟨by unfold byP; rw [if_pos hf, if_pos h0, hpm], by unfold allowP; rw [hf, h0, hpm], ?_⟩
   unfold wrongs
   rw [List.filter_filter, List.filter_eq_nil_iff.2 ?_]; · rfl
   intro p _; simp; intro h; simp [h]
 · have hb : byP nm fb vt ps = forbids nm fb vt ps := by unfold byP; rw [if_neg h0]
   have hk : (ps.filter fun p => (byP nm fb vt ps).contains (nm p)) = ps.filter fun p => vt p == 1 && fb p := by
     refine List.filter_congr fun p hp => ?_
     rw [hb, Bool.eq_iff_iff, List.contains_iff_mem, mem_forbids]
     simp only [Bool.and_eq_true, beq_iff_eq]
     constructor
     · rintro ⟨q, hq, hv, hf, e⟩; rw [← nm_inj hn hq hp e]; exact ⟨hv, hf⟩
     · rintro ⟨hv, hf⟩; exact ⟨p, hp, hv, hf, rfl⟩
   rw [hk]
   have hf : forbids nm fb vt (ps.filter fun p => vt p == 1 && fb p) = forbids nm fb vt ps := by
     unfold forbids; rw [List.filter_filter]; congr 1; refine List.filter_congr fun p _ => ?_; simp
   have hpm : permits nm fb vt (ps.filter fun p => vt p == 1 && fb p) = [] := by
     rw [permits_nil]; intro p hp; simp at hp; simp [hp.2.2]
   refine ⟨by rw [hb]; unfold byP; rw [hf, if_neg h0], ?_, ?_⟩
   · have e : (forbids nm fb vt ps).isEmpty = false := by cases h : forbids nm fb vt ps; exact absurd h h0; rfl
     unfold allowP; rw [hf, hpm, e]; rfl
   · unfold wrongs
     rw [List.filter_filter, List.filter_eq_nil_iff.2 ?_]; · rfl
     intro p _; simp; intro h; simp [h]
end
end Go.Proofs.YtpheiojmcafolaaGreatDoor
namespace Go.Proofs.YtpheiojmcafolaaGreatDoor
open Go.RowKit
def eB : ByteArray := ⟨#[]⟩
def qB (v : ByteArray) : ByteArray := ⟨#[63]⟩ ++ v
def varN (v : ByteArray) : Nd := ⟨8, 0, v, eB⟩
def opN (k : Int) : Nd := ⟨k, 0, eB, eB⟩
def entN (u : Ud) : Nd := ⟨4, 0, u.ty, u.id⟩
def scopeE (s : Sc) (v : ByteArray) : List Nd :=
 if s.op = 1 then [opN 14, varN v, entN s.uid]
 else if s.op = 2 then [opN 20, varN v, entN s.uid]
 else if s.op = 3 then [⟨24, 0, s.ty, eB⟩, varN v]
 else if s.op = 4 then [opN 11, ⟨24, 0, s.ty, eB⟩, varN v, opN 20, varN v, entN s.uid]
 else if s.op = 5 then [opN 14, varN v, varN (qB v)]
 else if s.op = 6 then [opN 20, varN v, varN (qB v)]
 else [⟨1, 1, eB, eB⟩]
def andE (a b : List Nd) : List Nd := opN 11 :: (a ++ b)
theorem andE_len (a b : List Nd) : (andE a b).length = a.length + b.length + 1 := by simp [andE]
theorem andE_ne (a b : List Nd) : andE a b ≠ [] := List.cons_ne_nil _ _
abbrev prB : ByteArray := ⟨#[112, 114, 105, 110, 99, 105, 112, 97, 108]⟩
abbrev acB : ByteArray := ⟨#[97, 99, 116, 105, 111, 110]⟩
abbrev reB : ByteArray := ⟨#[114, 101, 115, 111, 117, 114, 99, 101]⟩
def condE (c : Cd) : List Nd := if c.unless_ = true then opN 9 :: c.expr else c.expr
def exprE0 (p : Po) : List Nd := andE (andE (scopeE p.who prB) (scopeE p.act acB)) (scopeE p.what reB)
def exprE (p : Po) : List Nd := p.conds.foldl (fun e c => andE e (condE c)) (exprE0 p)
def exprP (p : Po) : List Nd × Int := if polErr p ≠ 0 then ([], polErr p) else if 200 < (exprE p).length then ([], 4) else (exprE p, 0)
theorem pol_ok {p : Po} : polErr p = 0 ↔ nameErr p.name.toList = 0 ∧ scOk p.who true = true ∧ scOk p.act false = true ∧ scOk p.what true = true ∧ p.conds.length ≤ 4 ∧ cdsErr p.conds = 0 := by
 unfold polErr
 by_cases h1 : nameErr p.name.toList = 0
 · rw [if_neg (by simp [h1])]
   by_cases h2 : scOk p.who true = false ∨ scOk p.act false = false ∨ scOk p.what true = false
   · rw [if_pos h2]
     constructor
     · intro h; cases h
     · rintro ⟨_, a, b, c, _⟩
       rcases h2 with h | h | h
       · rw [a] at h; cases h
       · rw [b] at h; cases h
       · rw [c] at h; cases h
   · rw [if_neg h2]
     simp only [not_or, Bool.not_eq_false] at h2
     by_cases h3 : 4 < p.conds.length
     · rw [if_pos h3]
       constructor
       · intro h; cases h
       · rintro ⟨_, _, _, _, a, _⟩; omega
     · rw [if_neg h3]
       exact ⟨fun h => ⟨h1, h2.1, h2.2.1, h2.2.2, by omega, h⟩, fun h => h.2.2.2.2.2⟩
 · rw [if_pos h1]
   exact ⟨fun h => absurd h h1, fun h => absurd h.1 h1⟩
end Go.Proofs.YtpheiojmcafolaaGreatDoor
namespace Go.Proofs.YtpheiojmcafolaaGreatDoor
open Go.RowKit Go.Sort
theorem ex_leaf (n : Nd) (h : shapedT n = true) (h0 : ndParts n = 0) (h7 : (n.op == 7) = false) : Ex (.one false) [n] :=
 .one n [] false h h7 (by rw [h0]; exact .nil _ _)
theorem ex_oneP (n m : Nd) (xs : List Nd) (h : shapedT n = true) (h1 : ndParts n = 1) (h7 : (n.op == 7) = false) (h6 : (n.op == 6) = false) (hx : Ex (.one false) (m :: xs)) : Ex (.one false) (n :: m :: xs) := by
 refine .one n _ false h h7 ?_
 rw [h1, h6]
 have := Ex.cons 0 false ⟨#[]⟩ m xs [] (by simp) hx (.nil _ _)
 rwa [List.append_nil] at this
theorem ex_twoP (n : Nd) (a b : List Nd) (h : shapedT n = true) (h2 : ndParts n = 2) (h7 : (n.op == 7) = false) (h6 : (n.op == 6) = false) (ha : Ex (.one false) a) (hb : Ex (.one false) b) : Ex (.one false) (n :: (a ++ b)) := by
 refine .one n _ false h h7 ?_
 rw [h2, h6]
 cases ha with
 | one m xs _ s1 s2 s3 =>
   cases hb with
   | one m' ys _ t1 t2 t3 =>
     have hb' := Ex.cons 0 false ⟨#[]⟩ m' ys [] (by simp) (.one m' ys false t1 t2 t3) (.nil _ _)
     rw [List.append_nil] at hb'
     exact Ex.cons 1 false ⟨#[]⟩ m xs (m' :: ys) (by simp) (.one m xs false s1 s2 s3) hb'
theorem opN_shaped {k : Int} (h : k = 9 ∨ k = 11 ∨ k = 14 ∨ k = 20) : shapedT (opN k) = true := by
 rcases h with rfl | rfl | rfl | rfl <;> simp [shapedT, opN, eB, ndParts, ByteArray.toList_eq]
theorem and_ex {a b : List Nd} (ha : Ex (.one false) a) (hb : Ex (.one false) b) : Ex (.one false) (andE a b) :=
 ex_twoP (opN 11) a b (opN_shaped (by simp)) rfl rfl rfl ha hb
theorem var_ex {v : ByteArray} (h : variableB v.toList = true) : Ex (.one false) [varN v] :=
 ex_leaf _ (by simp [shapedT, varN, eB, ByteArray.toList_eq] at h ⊢; exact h) rfl rfl
theorem ud_parts {u : Ud} (h : udErr u = 0) : nameErr u.ty.toList = 0 ∧ textErr u.id.toList = 0 := by
 unfold udErr at h
 split at h
 · exact ⟨‹_›, h⟩
 · rename_i hn; exact absurd h hn
theorem ent_ex {u : Ud} (h : udErr u = 0) : Ex (.one false) [entN u] := by
 obtain ⟨hn, ht⟩ := ud_parts h
 exact ex_leaf _ (by rw [shaped_low (by simp [entN])]; simp [shapedV, entN, hn, ht]) rfl rfl
theorem true_ex : Ex (.one false) [(⟨1, 1, eB, eB⟩ : Nd)] :=
 ex_leaf _ (by rw [shaped_low (by simp)]; simp [shapedV, eB, ByteArray.toList_eq]) rfl rfl
theorem is_ex {t v : ByteArray} (h : nameErr t.toList = 0) (hv : variableB v.toList = true) : Ex (.one false) [(⟨24, 0, t, eB⟩ : Nd), varN v] :=
 ex_oneP _ _ _ (by simp [shapedT, eB, ByteArray.toList_eq] at h ⊢; exact h) rfl rfl rfl (var_ex hv)
structure VarOk (v : ByteArray) : Prop where
 pv : variableB v.toList = true
 pq : variableB (qB v).toList = true
 pn : v.toList.head? ≠ some 63
theorem qB_list (v : ByteArray) : (qB v).toList = 63 :: v.toList := by
 rw [ByteArray.toList_eq, ByteArray.toList_eq]; unfold qB; simp
theorem scope_ex {s : Sc} {b : Bool} {v : ByteArray} (h : scOk s b = true) (hv : VarOk v) : Ex (.one false) (scopeE s v) := by
 have e := var_ex hv.pv
 have q := var_ex hv.pq
 unfold scopeE
 by_cases h1 : s.op = 1
 · rw [if_pos h1]
   have : udErr s.uid = 0 := by simp [scOk, h1, udOk] at h; exact h.1
   exact ex_twoP _ _ _ (opN_shaped (by simp)) rfl rfl rfl e (ent_ex this)
 rw [if_neg h1]
 by_cases h2 : s.op = 2
 · rw [if_pos h2]
   have : udErr s.uid = 0 := by simp [scOk, h2, udOk] at h; exact h.1
   exact ex_twoP _ _ _ (opN_shaped (by simp)) rfl rfl rfl e (ent_ex this)
 rw [if_neg h2]
 by_cases h3 : s.op = 3
 · rw [if_pos h3]
   have : nameErr s.ty.toList = 0 := by simp [scOk, h3] at h; exact h.1
   exact is_ex this hv.pv
 rw [if_neg h3]
 by_cases h4 : s.op = 4
 · rw [if_pos h4]
   have h' : nameErr s.ty.toList = 0 ∧ udErr s.uid = 0 := by simp [scOk, h4, udOk] at h; exact h
   exact ex_twoP (opN 11) [⟨24, 0, s.ty, eB⟩, varN v] [opN 20, varN v, entN s.uid] (opN_shaped (by simp)) rfl rfl rfl (is_ex h'.1 hv.pv) (ex_twoP _ _ _ (opN_shaped (by simp)) rfl rfl rfl e (ent_ex h'.2))
 rw [if_neg h4]
 by_cases h5 : s.op = 5
 · rw [if_pos h5]; exact ex_twoP _ _ _ (opN_shaped (by simp)) rfl rfl rfl e q
 rw [if_neg h5]
 by_cases h6 : s.op = 6
 · rw [if_pos h6]; exact ex_twoP _ _ _ (opN_shaped (by simp)) rfl rfl rfl e q
 rw [if_neg h6]
 exact true_ex
theorem cond_ex {c : Cd} (h : cdErr c.expr = 0) : Ex (.one false) (condE c) := by
 have ht : treeErr c.expr = 0 := by
   unfold cdErr at h
   split at h
   · rename_i hn; exact absurd h hn
   · rename_i hn; simpa using hn
 have hx := ((tree_iff _).1 ht).2
 unfold condE
 generalize c.expr = e at hx
 split
 · cases hx with
   | one m xs _ s1 s2 s3 => exact ex_oneP _ _ _ (opN_shaped (by simp)) rfl rfl rfl (.one m xs false s1 s2 s3)
 · exact hx
theorem cds_each {l : List Cd} (h : cdsErr l = 0) : ∀ c ∈ l, cdErr c.expr = 0 := by
 induction l with
 | nil => simp
 | cons y r ih =>
   have e : cdsErr (y :: r) = if cdErr y.expr ≠ 0 then cdErr y.expr else cdsErr r := rfl
   rw [e] at h
   by_cases hn : cdErr y.expr = 0
   · rw [if_neg (by simp [hn])] at h
     intro c hc
     rcases List.mem_cons.1 hc with rfl | hc
     · exact hn
     · exact ih h c hc
   · rw [if_pos hn] at h; exact absurd h hn
def exprC (e0 : List Nd) (l : List Cd) : List Nd := l.foldl (fun e c => andE e (condE c)) e0
theorem exprC_ex {e0 : List Nd} {l : List Cd} (h0 : Ex (.one false) e0) (h : ∀ c ∈ l, cdErr c.expr = 0) : Ex (.one false) (exprC e0 l) := by
 induction l generalizing e0 with
 | nil => exact h0
 | cons y r ih => exact ih (and_ex h0 (cond_ex (h y (List.mem_cons_self ..)))) fun c hc => h c (List.mem_cons_of_mem _ hc)
theorem nameOk_pr : VarOk prB := ⟨by rw [ByteArray.toList_eq]; decide, by rw [qB_list, ByteArray.toList_eq]; decide, by rw [ByteArray.toList_eq]; decide⟩
theorem nameOk_ac : VarOk acB := ⟨by rw [ByteArray.toList_eq]; decide, by rw [qB_list, ByteArray.toList_eq]; decide, by rw [ByteArray.toList_eq]; decide⟩
theorem nameOk_re : VarOk reB := ⟨by rw [ByteArray.toList_eq]; decide, by rw [qB_list, ByteArray.toList_eq]; decide, by rw [ByteArray.toList_eq]; decide⟩
end Go.Proofs.YtpheiojmcafolaaGreatDoor
namespace Go.Proofs.YtpheiojmcafolaaGreatDoor
open Go.RowKit
theorem must_bN (b : Bool) : mustV (.ok [bN b]) 1 = .ok [bN b] := rfl
theorem and_bN (a b : Bool) : eitherR 11 (.ok [bN a]) (.ok [bN b]) = .ok [bN (a && b)] := by cases a <;> cases b <;> rfl
end Go.Proofs.YtpheiojmcafolaaGreatDoor
namespace Go.Proofs.YtpheiojmcafolaaGreatDoor
open Go.RowKit
def fitsB (es : List En) (s : Sc) (u : Ud) : Bool :=
 if s.op = 1 then decide (u = s.uid) else if s.op = 3 then decide (u.ty = s.ty) else if s.op = 2 ∨ s.op = 4 then inB es u s.uid && (s.op == 2 || decide (u.ty = s.ty)) else true
theorem evX_name (es : List En) (q : Rq) (v : ByteArray) : evX es q [varN v] = namedR q v.toList := evX_var es q rfl
theorem evX_ent (es : List En) (q : Rq) (u : Ud) : evX es q [entN u] = .ok [eN u] := evX_leaf es q (.inr (.inr (.inr rfl)))
theorem eN_inj {u t : Ud} : [eN u] = [eN t] ↔ u = t := by
 constructor
 · intro h
   injection h with h
   unfold eN at h
   injection h with _ _ h1 h2
   cases u; cases t
   simp only at h1 h2
   rw [h1, h2]
 · rintro rfl; rfl
theorem in_ent (es : List En) (u t : Ud) : inR' es [eN u] [eN t] = .ok (inB es u t) := by
 unfold inR'
 have h5 : ¬ opH [eN t] = 5 := by show ¬ (4 : Int) = 5; decide
 have hm : mustV (.ok [eN u]) 4 = .ok [eN u] := rfl
 rw [hm, if_neg h5]
 show (if ([[eN t]].all fun t => opH t == 4) = true then Rs.ok ([[eN t]].any fun t => inB es (udH [eN u]) (udH t)) else .bad 2) = _
 rw [if_pos (by rfl : ([[eN t]].all fun t => opH t == 4) = true)]
 simp [udH, eN]
theorem scope_means (es : List En) (q : Rq) {s : Sc} {b : Bool} {v : ByteArray} {u : Ud} (h : scOk s b = true) (hv : VarOk v) (hs : ¬ (s.op = 5 ∨ s.op = 6)) (hn : namedR q v.toList = .ok [eN u]) : evX es q (scopeE s v) = .ok [bN (fitsB es s u)] := by
 have e := var_ex hv.pv
 unfold scopeE fitsB
 by_cases h1 : s.op = 1
 · rw [if_pos h1, if_pos h1]
   have hu : udErr s.uid = 0 := by simp [scOk, h1, udOk] at h; exact h.1
   have := evX_two es q (x := opN 14) (a := [varN v]) (b := [entN s.uid]) (.inl rfl) e (ent_ex hu)
   rw [show opN 14 :: ([varN v] ++ [entN s.uid]) = [opN 14, varN v, entN s.uid] from rfl] at this
   rw [this, evX_name, hn, evX_ent]
   show doubleR es 14 [eN u] [eN s.uid] = _
   unfold doubleR
   rw [if_pos rfl]
   simp only [eN_inj]
 · rw [if_neg h1, if_neg h1]
   by_cases h2 : s.op = 2
   · rw [if_pos h2, if_neg (by omega), if_pos (.inl h2)]
     have hu : udErr s.uid = 0 := by simp [scOk, h2, udOk] at h; exact h.1
     have := evX_two es q (x := opN 20) (a := [varN v]) (b := [entN s.uid]) (.inr (.inr (.inr (.inr (.inr (.inr (.inl rfl))))))) e (ent_ex hu)
     rw [show opN 20 :: ([varN v] ++ [entN s.uid]) = [opN 20, varN v, entN s.uid] from rfl] at this
     rw [this, evX_name, hn, evX_ent]
     show doubleR es 20 [eN u] [eN s.uid] = _
     unfold doubleR
     rw [if_neg (by decide), if_pos rfl, in_ent]
     simp [Rs.bind, h2]
   · rw [if_neg h2]
     have hisv : ∀ t : ByteArray, evX es q [(⟨24, 0, t, eB⟩ : Nd), varN v] = .ok [bN (decide (u.ty = t))] := fun t => by
       have := evX_one es q (x := (⟨24, 0, t, eB⟩ : Nd)) (a := [varN v]) (.inr (.inr (.inr (.inr (.inr rfl))))) e
       rw [this, evX_name, hn]
       show singleR es (⟨24, 0, t, eB⟩ : Nd) [eN u] = _
       unfold singleR
       have a1 : ¬ (24 : Int) = 9 := by decide
       have a2 : ¬ (24 : Int) = 10 := by decide
       have a3 : ¬ (24 : Int) = 23 := by decide
       simp only [a1, a2, a3, if_false, if_true]
       rfl
     by_cases h3 : s.op = 3
     · rw [if_pos h3, if_pos h3, hisv]
     · rw [if_neg h3, if_neg h3]
       by_cases h4 : s.op = 4
       · rw [if_pos h4, if_pos (.inr h4)]
         have h' : nameErr s.ty.toList = 0 ∧ udErr s.uid = 0 := by simp [scOk, h4, udOk] at h; exact h
         have hin := evX_two es q (x := opN 20) (a := [varN v]) (b := [entN s.uid]) (.inr (.inr (.inr (.inr (.inr (.inr (.inl rfl))))))) e (ent_ex h'.2)
         rw [show opN 20 :: ([varN v] ++ [entN s.uid]) = [opN 20, varN v, entN s.uid] from rfl] at hin
         have hin2 : evX es q [opN 20, varN v, entN s.uid] = .ok [bN (inB es u s.uid)] := by
           rw [hin, evX_name, hn, evX_ent]
           show doubleR es 20 [eN u] [eN s.uid] = _
           unfold doubleR
           rw [if_neg (by decide), if_pos rfl, in_ent]; rfl
         have hand := evX_and es q (x := opN 11) (a := [(⟨24, 0, s.ty, eB⟩ : Nd), varN v]) (b := [opN 20, varN v, entN s.uid]) (.inl rfl) (is_ex h'.1 hv.pv) (ex_twoP _ [varN v] [entN s.uid] (opN_shaped (by simp)) rfl rfl rfl e (ent_ex h'.2))
         rw [show opN 11 :: ([(⟨24, 0, s.ty, eB⟩ : Nd), varN v] ++ [opN 20, varN v, entN s.uid]) = [opN 11, ⟨24, 0, s.ty, eB⟩, varN v, opN 20, varN v, entN s.uid] from rfl] at hand
         rw [hand, hisv, hin2]
         show eitherR 11 _ _ = _
         rw [and_bN]
         have : (s.op == 2) = false := by simp [h2]
         rw [this, Bool.false_or, Bool.and_comm]
       · rw [if_neg h4, if_neg (fun h => hs (.inl h)), if_neg (fun h => hs (.inr h)), if_neg (by omega)]
         rw [evX_leaf es q (.inl rfl)]; rfl
def condR (es : List En) (q : Rq) (c : Cd) : Rs Bool := (mustV (evX es q c.expr) 1).bind fun v => .ok ((nH v == 1) != c.unless_)
theorem cond_tree {c : Cd} (h : cdErr c.expr = 0) : treeErr c.expr = 0 := by
 unfold cdErr at h
 split at h
 · rename_i hn; exact absurd h hn
 · rename_i hn; simpa using hn
theorem must_val (es : List En) (q : Rq) (hq : rqErr q = 0) {xs : List Nd} (hx : Ex (.one false) xs) : mustV (evX es q xs) 1 = (mustV (evX es q xs) 1).bind fun v => .ok [bN (nH v == 1)] := by
 cases hv : mustV (evX es q xs) 1 with
 | bad k => rfl
 | ok v =>
   obtain ⟨h1, h2⟩ := must_ok hv
   show Rs.ok v = .ok [bN (nH v == 1)]
   rw [← bool_val (evE_vx hq _ xs hx h1) h2]
theorem cond_means (es : List En) (q : Rq) (hq : rqErr q = 0) {c : Cd} (h : cdErr c.expr = 0) : mustV (evX es q (condE c)) 1 = (condR es q c).bind fun b => .ok [bN b] := by
 have hx := ((tree_iff _).1 (cond_tree h)).2
 unfold condE condR
 cases hu : c.unless_ with
 | true =>
   simp only [if_true]
   have h9 : evX es q (opN 9 :: c.expr) = (evX es q c.expr).bind fun v => singleR es (opN 9) v := evX_one es q (.inl rfl) hx
   rw [h9]
   have hm := must_val es q hq hx
   cases hr : evX es q c.expr with
   | bad k => rfl
   | ok v =>
     rw [hr] at hm
     show mustV (singleR es (opN 9) v) 1 = _
     have hs : singleR es (opN 9) v = (mustV (.ok v) 1).bind fun v => .ok [bN (nH v == 0)] := by unfold singleR; exact if_pos rfl
     rw [hs]
     by_cases h1 : opH v = 1
     · have hmv : mustV (.ok v) 1 = .ok v := by show (if opH v = 1 then Rs.ok v else .bad 2) = _; rw [if_pos h1]
       rw [hmv]
       have hb := bool_val (evE_vx hq _ _ hx hr) h1
       show mustV (.ok [bN (nH v == 0)]) 1 = .ok [bN ((nH v == 1) != true)]
       rw [must_bN]
       generalize (nH v == 1) = b at hb
       rw [hb]
       cases b <;> rfl
     · have hmv : mustV (.ok v) 1 = .bad 2 := by show (if opH v = 1 then Rs.ok v else .bad 2) = _; rw [if_neg h1]
       rw [hmv]; rfl
 | false =>
   rw [if_neg (by simp), must_val es q hq hx]
   cases mustV (evX es q c.expr) 1 with
   | bad k => rfl
   | ok v =>
     show Rs.ok [bN (nH v == 1)] = .ok [bN ((nH [bN (nH v == 1)] == 1) != false)]
     cases (nH v == 1) <;> rfl
def condsR (es : List En) (q : Rq) : List Cd → Rs Bool
 | [] => .ok true
 | c :: r => (condR es q c).bind fun b => if b = true then condsR es q r else .ok false
theorem and_step (es : List En) (q : Rq) (hq : rqErr q = 0) {e : List Nd} (he : Ex (.one false) e) {c : Cd} (h : cdErr c.expr = 0) {r : Rs Bool} (hr : evX es q e = r.bind fun b => .ok [bN b]) :
   evX es q (andE e (condE c)) = (r.bind fun b => if b = true then condR es q c else .ok false).bind fun b => .ok [bN b] := by
 have ha : evX es q (andE e (condE c)) = eitherR 11 (evX es q e) (evX es q (condE c)) := evX_and es q (.inl rfl) he (cond_ex h)
 rw [ha, hr]
 cases r with
 | bad k => rfl
 | ok b =>
   show eitherR 11 (.ok [bN b]) _ = _
   unfold eitherR
   rw [must_bN]
   cases b with
   | false => rfl
   | true =>
     show (if ((nH [bN true] == 1) : Bool) = ((11 : Int) == 12) then Rs.ok [bN true] else mustV (evX es q (condE c)) 1) = _
     rw [if_neg (by decide), cond_means es q hq h]; rfl
theorem conds_means (es : List En) (q : Rq) (hq : rqErr q = 0) : ∀ (l : List Cd), (∀ c ∈ l, cdErr c.expr = 0) → ∀ (e : List Nd) (r : Rs Bool), Ex (.one false) e → evX es q e = r.bind (fun b => .ok [bN b]) →
   evX es q (exprC e l) = (r.bind fun b => if b = true then condsR es q l else .ok false).bind fun b => .ok [bN b]
 | [], _, e, r, _, hr => by
   show evX es q e = _
   rw [hr]
   cases r with
   | bad k => rfl
   | ok b => cases b <;> rfl
 | c :: l, h, e, r, he, hr => by
   show evX es q (exprC (andE e (condE c)) l) = _
   rw [conds_means es q hq l (fun x hx => h x (by simp [hx])) _ _ (and_ex he (cond_ex (h c (by simp)))) (and_step es q hq he (h c (by simp)) hr)]
   cases r with
   | bad k => rfl
   | ok b =>
     cases b with
     | false => rfl
     | true =>
       show ((condR es q c).bind _).bind _ = ((condR es q c).bind _).bind _
       cases condR es q c with
       | bad k => rfl
       | ok b' => cases b' <;> rfl
def scopesB (es : List En) (q : Rq) (p : Po) : Bool := fitsB es p.who q.who && fitsB es p.act q.act && fitsB es p.what q.what
theorem named_pr (q : Rq) : namedR q prB.toList = .ok [eN q.who] := by rw [ByteArray.toList_eq]; rfl
theorem named_ac (q : Rq) : namedR q acB.toList = .ok [eN q.act] := by rw [ByteArray.toList_eq]; rfl
theorem named_re (q : Rq) : namedR q reB.toList = .ok [eN q.what] := by rw [ByteArray.toList_eq]; rfl
theorem pol_means (es : List En) (q : Rq) (hq : rqErr q = 0) {p : Po} (h : polErr p = 0) (hw : ¬ (p.who.op = 5 ∨ p.who.op = 6)) (hx : ¬ (p.what.op = 5 ∨ p.what.op = 6)) :
   evX es q (exprE p) = (if scopesB es q p = true then condsR es q p.conds else .ok false).bind fun b => .ok [bN b] := by
 obtain ⟨_, h1, h2, h3, _, h5⟩ := pol_ok.1 h
 have ha : ¬ (p.act.op = 5 ∨ p.act.op = 6) := by
   intro hc
   unfold scOk at h2
   rw [if_neg (by omega), if_pos hc] at h2
   simp at h2
 have e1 := scope_ex h1 nameOk_pr
 have e2 := scope_ex h2 nameOk_ac
 have e3 := scope_ex h3 nameOk_re
 have m1 := scope_means es q h1 nameOk_pr hw (named_pr q)
 have m2 := scope_means es q h2 nameOk_ac ha (named_ac q)
 have m3 := scope_means es q h3 nameOk_re hx (named_re q)
 have m12 : evX es q (andE (scopeE p.who prB) (scopeE p.act acB)) = .ok [bN (fitsB es p.who q.who && fitsB es p.act q.act)] := by
   have : evX es q (andE (scopeE p.who prB) (scopeE p.act acB)) = eitherR 11 _ _ := evX_and es q (.inl rfl) e1 e2
   rw [this, m1, m2, and_bN]
 have m0 : evX es q (exprE0 p) = (Rs.ok (scopesB es q p)).bind fun b => .ok [bN b] := by
   have : evX es q (exprE0 p) = eitherR 11 _ _ := evX_and es q (.inl rfl) (and_ex e1 e2) e3
   rw [this, m12, m3, and_bN]; rfl
 exact conds_means es q hq p.conds (cds_each h5) (exprE0 p) _ (and_ex (and_ex e1 e2) e3) m0
end Go.Proofs.YtpheiojmcafolaaGreatDoor
namespace Go.Proofs.YtpheiojmcafolaaGreatDoor
open Go.RowKit Go.Sort
theorem string_info : (Tryz.prog.info? 9).map (fun i => (i.zero, i.size, i.bytes)) = some (some (.string ⟨#[]⟩), 1, 16) := by kernel_rfl
def StrsBack (w : World) (r : Ending) (w' : World) (ss : List (List UInt8)) (k : Int) : Prop :=
 ∃ A c, r = .returned (.tuple #[.slice A ss.length c, errV k]) ∧ ss.length ≤ c ∧ c ≤ 9223372036854775807 ∧ StrSl w' w'.heap.size A ss ∧ Below w.heap.size w w'
end Go.Proofs.YtpheiojmcafolaaGreatDoor
