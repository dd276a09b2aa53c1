/-
  WORDS APPENDED to a row of one's own, any words, also none.
-/
import Derived.Test.YtbggbcnfkcadjaaGreatDoorPe14
import Derived.Deep.AppendLies
namespace Go.Proofs.YtbggbcnfkcadjaaGreatDoor
set_option maxRecDepth 100000
open Go.RowKit Go.Sort
theorem wpList_append_run {P : Program} {w : World} {ops : Array Oper} {rest : List Oper} {o : Oper} {a : Act} {Q : Exit → Act → World → Prop} (hgd : o.guard = none) (s x : Operand) (t : TypeId)
   (ho : o.op = .call { callee := .builtin .append, args := #[s, x], argTypes := #[t, t] }) (v xv : Value) (hs : a.eval s = v) (hx : a.eval x = xv) (R : Value → World → Prop)
   (hr : ∃ v' w', (Builtin.append_ #[t, t] o.type #[v, xv]).run P w = .ok v' w' ∧ R v' w') (h : ∀ v' w', R v' w' → wpList P ops Q rest (a.put o.dst v') w') : wpList P ops Q (o :: rest) a w :=
 wpList_plain hgd fun _ hK => by
   obtain ⟨v', w', hr, h2⟩ := hr
   unfold Oper.wp execOp
   simp only [ho, resolve, invoke, builtin, Sem.run_bind, Sem.run_pure, Result.andThen_ok, List.map_toArray, List.map_cons, List.map_nil, hs, hx, hr]
   exact hK _ _ (h v' w' h2)
structure TkRow (base : Nat) (xs : List Tk) (W : World) (v0 : Value) (v : Value) (w : World) : Prop where
 own : w.ownsRow base 42 3 v xs.length (flatG Tk.cells xs)
 grow : W.grownBy w v0.ownBlock
theorem own_zeroT {W : World} {base g : Nat} (hg : Blk W g 42 #[]) (hb : base ≤ g) : W.ownsRow base 42 3 (.slice (some ⟨g, 0, none⟩) 0 0) 0 [] :=
 ⟨by simp, .inr ⟨g, 0, #[], rfl, hb, hg, by omega, by simp [maxLen], by simp, by simp⟩⟩
theorem app_toks {W : World} {base B : Nat} {v : Value} {xs ys : List Tk} {A : Option Addr} {c : Nat} (hown : W.ownsRow base 42 3 v xs.length (flatG Tk.cells xs)) (hsl : TkSl W B A ys) (hn : xs.length + ys.length ≤ 4194304) (hbase : base ≤ W.heap.size) :
   ∃ v' w', (Builtin.append_ #[23, 23] 23 #[v, .slice A ys.length c]).run Tryz.prog W = .ok v' w' ∧ TkRow base (xs ++ ys) W v v' w' := by
 obtain ⟨j0, hj, hz0, hz1, hz2⟩ := info_parts tok_info
 rcases Nat.eq_zero_or_pos ys.length with h0 | h0
 · obtain rfl : ys = [] := List.eq_nil_of_length_eq_zero h0
   rw [List.append_nil]
   cases A with
   | none => exact ⟨_, _, run_append_zero base 23 23 42 j0 3 Tryz.underlying23 hj _ _ _ hown c, hown, World.grownBy.refl _ _⟩
   | some ad =>
     obtain ⟨v', w', hr, h2, h3, _, _⟩ := run_append_own_at (P := Tryz.prog) W base 23 23 42 j0 _ 3 32 Tryz.underlying23 hj hz0 hz1 hz2 rfl (by omega) _ _ _ hown ad 0 c [] rfl (fun j u hu => by simp at hu) (by simp) (by unfold maxLen; omega) (by omega) hbase
     rw [List.append_nil] at h2
     exact ⟨v', w', hr, h2, h3⟩
 · obtain ⟨b, o, hA, hbl, -⟩ := hsl (by intro e; rw [e] at h0; simp at h0)
   subst hA
   obtain ⟨v', w', hr, h2, h3, _, _⟩ := run_append_own_at (P := Tryz.prog) W base 23 23 42 j0 _ 3 32 Tryz.underlying23 hj hz0 hz1 hz2 rfl (by omega) _ _ _ hown ⟨b, o, none⟩ ys.length c (flatG Tk.cells ys) (flatG_len tk_ok ys)
     (fun j u hu => SlG.flat tk_ok hsl j u hu) (flatG_cell tk_ok ys) (by unfold maxLen; omega) (by omega) hbase
   rw [← flatG_append] at h2
   exact ⟨v', w', hr, by rw [List.length_append]; exact h2, h3⟩
theorem tkSl_take {w : World} {B : Nat} {A : Option Addr} {xs : List Tk} (h : TkSl w B A xs) (k : Nat) : TkSl w B A (xs.take k) := fun hne => by
 obtain ⟨b, o, e, hb, hc⟩ := h (by rintro rfl; simp at hne)
 refine ⟨b, o, e, hb, fun i x hx => hc i x ?_⟩
 rw [List.getElem?_take] at hx
 split at hx
 · exact hx
 · cases hx
theorem take_slice (b o n c k : Nat) (hk : k ≤ n) (hn : n ≤ c) (W : World) : (Instr.slice 23 (.slice (some ⟨b, o, none⟩) n c) none (some (.int .i64 (k : Int))) none).run Tryz.prog W = .ok (.slice (some ⟨b, o, none⟩) k c) W := by
 have h1 : k ≤ c := by omega
 go_simp
end Go.Proofs.YtbggbcnfkcadjaaGreatDoor
