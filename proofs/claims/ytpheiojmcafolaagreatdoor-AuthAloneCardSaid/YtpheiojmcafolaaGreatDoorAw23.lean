/-
  POLICIES APPENDED in a region that draws: steps by a run's own equation; rows of policies.
-/
import Derived.Test.YtpheiojmcafolaaGreatDoorAw17
import Derived.Deep.AppendLies
namespace Go.Proofs.YtpheiojmcafolaaGreatDoor
set_option maxRecDepth 100000
open Go.RowKit Go.Sort
theorem bs_pol0 (W : World) : (Instr.buildSlice 67 0 #[]).run Tryz.prog W = .ok (.slice (some ⟨W.heap.size, 0, none⟩) 0 0) (W.alloc (.cells #[] 47)) := by kernel_rfl
theorem own_zero {W : World} {base g : Nat} {T : TypeId} {k : Nat} (hg : Blk W g T #[]) (hb : base ≤ g) : W.ownsRow base T k (.slice (some ⟨g, 0, none⟩) 0 0) 0 [] :=
 ⟨by simp, .inr ⟨g, 0, #[], rfl, hb, hg, by omega, by simp [maxLen], by simp, by simp⟩⟩
def Po15 (y : PoM) (b : Nat) (w1 W : World) : Prop := W.cell? ⟨b, 0, none⟩ = some (.string y.p.name) ∧ W.cell? ⟨b, 1, none⟩ = some (.bool y.p.forbid) ∧ W.cell? ⟨b, 2, none⟩ = some (.int .i64 y.p.who.op) ∧ W.cell? ⟨b, 3, none⟩ = some (.string y.p.who.ty) ∧ W.cell? ⟨b, 4, none⟩ = some (.string y.p.who.uid.ty) ∧ W.cell? ⟨b, 5, none⟩ = some (.string y.p.who.uid.id) ∧ W.cell? ⟨b, 6, none⟩ = some (.int .i64 y.p.act.op) ∧ W.cell? ⟨b, 7, none⟩ = some (.string y.p.act.ty) ∧ W.cell? ⟨b, 8, none⟩ = some (.string y.p.act.uid.ty) ∧ W.cell? ⟨b, 9, none⟩ = some (.string y.p.act.uid.id) ∧ W.cell? ⟨b, 10, none⟩ = some (.int .i64 y.p.what.op) ∧ W.cell? ⟨b, 11, none⟩ = some (.string y.p.what.ty) ∧ W.cell? ⟨b, 12, none⟩ = some (.string y.p.what.uid.ty) ∧ W.cell? ⟨b, 13, none⟩ = some (.string y.p.what.uid.id) ∧ W.cell? ⟨b, 14, none⟩ = some (.slice y.A y.cs.length y.c) ∧ RowKit.Below w1.heap.size w1 W
theorem Po15.of {y : PoM} {b : Nat} {w1 W : World} (h : Blk w1 b 47 #[.string y.p.name, .bool y.p.forbid, .int .i64 y.p.who.op, .string y.p.who.ty, .string y.p.who.uid.ty, .string y.p.who.uid.id, .int .i64 y.p.act.op, .string y.p.act.ty, .string y.p.act.uid.ty, .string y.p.act.uid.id, .int .i64 y.p.what.op, .string y.p.what.ty, .string y.p.what.uid.ty, .string y.p.what.uid.id, .slice y.A y.cs.length y.c]) (hb : RowKit.Below w1.heap.size w1 W) : Po15 y b w1 W := by
 have h := h.below hb h.lt
 exact ⟨h.cell 0, h.cell 1, h.cell 2, h.cell 3, h.cell 4, h.cell 5, h.cell 6, h.cell 7, h.cell 8, h.cell 9, h.cell 10, h.cell 11, h.cell 12, h.cell 13, h.cell 14, hb⟩
theorem Po15.b {y : PoM} {b : Nat} {w1 W : World} (h : Po15 y b w1 W) : RowKit.Below w1.heap.size w1 W := by
 obtain ⟨_, _, _, _, _, _, _, _, _, _, _, _, _, _, _, h⟩ := h
 exact h
theorem Po15.next {y : PoM} {b : Nat} {w1 W : World} (h : Po15 y b w1 W) (hB : Blk w1 b 47 #[.string y.p.name, .bool y.p.forbid, .int .i64 y.p.who.op, .string y.p.who.ty, .string y.p.who.uid.ty, .string y.p.who.uid.id, .int .i64 y.p.act.op, .string y.p.act.ty, .string y.p.act.uid.ty, .string y.p.act.uid.id, .int .i64 y.p.what.op, .string y.p.what.ty, .string y.p.what.uid.ty, .string y.p.what.uid.id, .slice y.A y.cs.length y.c]) (o : Obj) : Po15 y b w1 (W.alloc o) := Po15.of hB (h.b.alloc h.b.size o)
theorem step_append_run {P : Program} {w : World} {ops : Array Oper} {o : Oper} {a : Act} {K : Act → World → Prop} {Q : Exit → Act → World → Prop} {E : Prop} (hgd : o.guard = none) (s x : Operand) (t : TypeId)
   (ho : o.op = .call { callee := .builtin .append, args := #[s, x], argTypes := #[t, t] }) (v xv : Value) (hs : a.eval s = v) (hx : a.eval x = xv) (R : Value → World → Prop)
   (hr : ∃ v' w', (Builtin.append_ #[t, t] o.type #[v, xv]).run P w = .ok v' w' ∧ R v' w') (h : ∀ v' w', R v' w' → K (a.put o.dst v') w') :
   if Region.wanted o (yielded ops a.tmps) = true then Oper.wp P o a w K Q else E := by
 obtain ⟨v', w', hr, h2⟩ := hr
 rw [if_pos (by simp [Region.wanted, hgd])]
 unfold Oper.wp execOp
 simp only [ho, resolve, invoke, builtin, Sem.run_bind, Sem.run_pure, Result.andThen_ok, List.map_toArray, List.map_cons, List.map_nil, hs, hx, hr]
 exact h v' w' h2
structure PoRow (ps : List PoM) (w1 : World) (v : Value) (w' : World) : Prop where
 own : w'.ownsRow w1.heap.size 47 15 v ps.length (flatG PoM.cells ps)
 below : RowKit.Below w1.heap.size w1 w'
theorem flat_cell {ps : List PoM} : ∀ u ∈ flatG PoM.cells ps, u.oneCell' = true := flatG_cell pom_ok ps
theorem app_pol0 {ps : List PoM} {A : Option Addr} {c : Nat} {w1 W : World} {g : Nat} (hg : Blk W g 47 #[]) (hb : w1.heap.size ≤ g) (hB : RowKit.Below w1.heap.size w1 W) (hP : PoSl w1 w1.heap.size A ps) (hn : ps.length * 216 ≤ reachBytes) :
   ∃ v' w', (Builtin.append_ #[67, 67] 67 #[.slice (some ⟨g, 0, none⟩) 0 0, .slice A ps.length c]).run Tryz.prog W = .ok v' w' ∧ PoRow ps w1 v' w' ∧ ∀ g' T cs, Blk W g' T cs → cs.size = 15 → Blk w' g' T cs := by
 obtain ⟨j0, hj, hz0, hz1, hz2⟩ := info_parts pol_info
 have hown : W.ownsRow w1.heap.size 47 15 (.slice (some ⟨g, 0, none⟩) 0 0) 0 [] := own_zero hg hb
 have hne : ∀ g' T cs, Blk W g' T cs → cs.size = 15 → g' ≠ g := by
   rintro g' T cs h1 h2 rfl
   have h3 : some (Obj.cells #[] 47 (0, 0)) = some (Obj.cells cs T (0, 0)) := (show W.heap[g']? = _ from hg).symm.trans h1
   injection h3 with h3
   injection h3 with h3
   rw [← h3] at h2
   simp at h2
 rcases Nat.eq_zero_or_pos ps.length with h0 | h0
 · obtain rfl : ps = [] := List.eq_nil_of_length_eq_zero h0
   cases A with
   | none => exact ⟨_, _, run_append_zero w1.heap.size 67 67 47 j0 15 Tryz.underlying67 hj _ 0 [] hown c, ⟨hown, hB⟩, fun _ _ _ h _ => h⟩
   | some ad =>
     obtain ⟨v', w', hr, h2, h3, _, _⟩ := run_append_own_at (P := Tryz.prog) W w1.heap.size 67 67 47 j0 _ 15 216 Tryz.underlying67 hj hz0 hz1 hz2 rfl (by omega) _ 0 [] hown ad 0 c [] rfl (fun j u hu => by simp at hu) (by simp) (by unfold maxLen; omega) (by omega) hB.size
     exact ⟨v', w', hr, ⟨h2, hB.grown h3 hB.size (fun k hk => (own_lt hown hk).1)⟩, fun g' T cs h4 h6 => h4.kept h3 (fun e => by injection e with e; exact hne g' T cs h4 h6 e)⟩
 · obtain ⟨b, o, hA, hbl, -⟩ := hP (by intro e; rw [e] at h0; simp at h0)
   subst hA
   have hP' := hP.below hB
   obtain ⟨v', w', hr, h2, h3, _, _⟩ := run_append_own_at (P := Tryz.prog) W w1.heap.size 67 67 47 j0 _ 15 216 Tryz.underlying67 hj hz0 hz1 hz2 rfl (by omega) _ 0 [] hown ⟨b, o, none⟩ ps.length c (flatG PoM.cells ps) (flatG_len pom_ok ps)
     (fun j u hu => SlG.flat pom_ok hP' j u hu) flat_cell (by unfold maxLen; unfold reachBytes at hn; omega) (by unfold reachBytes at hn; omega) hB.size
   rw [Nat.zero_add, List.nil_append] at h2
   exact ⟨v', w', hr, ⟨h2, hB.grown h3 hB.size (fun k hk => (own_lt hown hk).1)⟩, fun g' T cs h4 h6 => h4.kept h3 (fun e => by injection e with e; exact hne g' T cs h4 h6 e)⟩
theorem app_pol1 {ps : List PoM} {y : PoM} {w1 W : World} {v : Value} {g : Nat} (h : PoRow ps w1 v W) (W' : World) (hw : RowKit.Below W.heap.size W W') (hg : Blk W' g 47 #[.string y.p.name, .bool y.p.forbid, .int .i64 y.p.who.op, .string y.p.who.ty, .string y.p.who.uid.ty, .string y.p.who.uid.id, .int .i64 y.p.act.op, .string y.p.act.ty, .string y.p.act.uid.ty, .string y.p.act.uid.id, .int .i64 y.p.what.op, .string y.p.what.ty, .string y.p.what.uid.ty, .string y.p.what.uid.id, .slice y.A y.cs.length y.c]) (hn : ps.length * 216 ≤ reachBytes) :
   ∃ v' w', (Builtin.append_ #[67, 67] 67 #[v, .slice (some ⟨g, 0, none⟩) 1 1]).run Tryz.prog W' = .ok v' w' ∧ PoRow (ps ++ [y]) w1 v' w' := by
 obtain ⟨j0, hj, hz0, hz1, hz2⟩ := info_parts pol_info
 have hs := h.below.size
 have hB : RowKit.Below w1.heap.size w1 W' := h.below.trans (hw.mono h.below.size)
 have hown := own_later h.own hw
 have hcell : ∀ j u, (PoM.cells y)[j]? = some u → W'.cell? ((⟨g, 0, none⟩ : Addr).add j) = some u := fun j u hu => by
   rw [add_none, Nat.zero_add, hg.cell, ← hu]
   simp [PoM.cells]
 obtain ⟨v', w', hr, h2, h3, _, _⟩ := run_append_own_at (P := Tryz.prog) W' w1.heap.size 67 67 47 j0 _ 15 216 Tryz.underlying67 hj hz0 hz1 hz2 rfl (by omega) _ ps.length _ hown ⟨g, 0, none⟩ 1 1 (PoM.cells y) rfl hcell (pom_ok.one y) (by unfold maxLen; unfold reachBytes at hn; omega) (by unfold reachBytes at hn; omega) hB.size
 exact ⟨v', w', hr, by rw [List.length_append, flatG_append, flatG_one]; exact h2, hB.grown h3 hB.size (fun k hk => (own_lt hown hk).1)⟩
end Go.Proofs.YtpheiojmcafolaaGreatDoor
