/-
  PLAIN LAWS: the words that the reference prints: a minus ahead of what begins with a number; digits.
  WORDS APPENDED to a row of one's own, any words, also none.
-/
import Derived.Test.YtbggbcnfkcadjaaGreatDoorPf13
import Derived.Test.YtbggbcnfkcadjaaGreatDoorPf16
import Derived.Deep.AppendLies
namespace Go.Proofs.YtbggbcnfkcadjaaGreatDoor
open Go.RowKit
theorem hdK_app {w : List Tk} {k : Int} (h : hdK k w = true) (u : List Tk) : hdK k (w ++ u) = true := by
 cases w with
 | nil => cases h
 | cons t q => exact h
theorem firstN_hd : ∀ (N : Nat) (a : List Nd), a.length ≤ N → Ex (.one false) a → firstN a = true → hdK 2 (wordsW a) = true ∧ 7 ≤ lvlE a := by
 intro N
 induction N with
 | zero => intro a hl h; cases h; simp at hl
 | succ N ih =>
   intro a hl h hf
   have h0 := h
   obtain ⟨n, ps, rfl, h7, hs, hc, hx⟩ := ex_cutW h
   rw [words_node h0 hc hx]
   have hf' : (if lvlW n.op = 7 then firstN ps.flatten else n.op == 2 && decide (0 ≤ n.n)) = true := hf
   by_cases hn : lvlW n.op = 7
   · rw [if_pos hn] at hf'
     have ho : n.op = 22 ∨ n.op = 25 ∨ n.op = 26 ∨ n.op = 27 := by
       apply Classical.byContradiction
       intro hno
       unfold lvlW at hn
       (repeat' split at hn) <;> omega
     have h6 : n.op ≠ 6 := by omega
     have hp : 0 < ps.length := by
       rw [hc]
       unfold ndParts
       rw [if_neg (by omega), if_neg (by omega)]
       split
       · decide
       · rw [if_pos (by omega)]; decide
     refine ⟨?_, by show 7 ≤ lvlW n.op; omega⟩
     cases ps with
     | nil => simp at hp
     | cons p qs =>
       have hpx := ex_items hx h6 p (by simp)
       rw [List.flatten_cons, firstN_app _ hpx] at hf'
       obtain ⟨h1, h2⟩ := ih p (parts_lt hl p (by simp)) hpx hf'
       have hpt : partT 7 p = wordsW p := by unfold partT; rw [if_pos h2]
       unfold nodeT
       rcases ho with ho | ho | ho | ho <;> simp only [ho] <;> simp only [List.getD_cons_zero, hpt] <;> exact hdK_app h1 _
   · rw [if_neg hn] at hf'
     simp only [Bool.and_eq_true, beq_iff_eq, decide_eq_true_eq] at hf'
     obtain ⟨h2, h0⟩ := hf'
     refine ⟨?_, by show 7 ≤ lvlW n.op; rw [h2]; decide⟩
     have hnt : nodeT n ps = numT n.n := by unfold nodeT leafT; simp [h2]
     rw [hnt]
     unfold numT
     rw [if_neg (by omega)]
     rfl
def brT (ts : List Tk) : List Tk := tSg [40] :: (ts ++ [tSg [41]])
theorem neg_part {a : List Nd} (h : Ex (.one false) a) (hk : NumK a) : (if hdK 2 (partT 6 a) = true then brT (partT 6 a) else partT 6 a) = partT (if firstN a = true then 9 else 6) a := by
 by_cases hf : firstN a = true
 · obtain ⟨h1, h2⟩ := firstN_hd _ a (Nat.le_refl _) h hf
   have hpt : partT 6 a = wordsW a := by unfold partT; rw [if_pos (by omega)]
   rw [if_pos hf, hpt, if_pos h1]
   unfold partT brT
   rw [if_neg (by have := lvl_le a; omega)]
 · have hb := ((back_bk _ a (Nat.le_refl _) h hk).part (l := 6) (by omega)).2.2 (by omega) (fun e => absurd e hf) []
   rw [List.append_nil] at hb
   rw [if_neg hf, if_neg (by rw [hb]; simp)]
theorem dec_step (u : Nat) (h : ¬ u < 10) : Lib.decDigits u = Lib.decDigits (u / 10) ++ [UInt8.ofNat (48 + u % 10)] := by
 rw [Lib.decDigits, dif_neg h]
end Go.Proofs.YtbggbcnfkcadjaaGreatDoor
namespace Go.Proofs.YtbggbcnfkcadjaaGreatDoor
set_option maxRecDepth 100000
open Go.RowKit Go.Sort
theorem wpList_append_run {P : Program} {w : World} {ops : Array Oper} {rest : List Oper} {o : Oper} {a : Act} {Q : Exit → Act → World → Prop} (hgd : o.guard = none) (s x : Operand) (t : TypeId)
   (ho : o.op = .call { callee := .builtin .append, args := #[s, x], argTypes := #[t, t] }) (v xv : Value) (hs : a.eval s = v) (hx : a.eval x = xv) (R : Value → World → Prop)
   (hr : ∃ v' w', (Builtin.append_ #[t, t] o.type #[v, xv]).run P w = .ok v' w' ∧ R v' w') (h : ∀ v' w', R v' w' → wpList P ops Q rest (a.put o.dst v') w') : wpList P ops Q (o :: rest) a w :=
 wpList_plain hgd fun _ hK => by
   obtain ⟨v', w', hr, h2⟩ := hr
   unfold Oper.wp execOp
   simp only [ho, resolve, invoke, builtin, Sem.run_bind, Sem.run_pure, Result.andThen_ok, List.map_toArray, List.map_cons, List.map_nil, hs, hx, hr]
   exact hK _ _ (h v' w' h2)
structure TkRow (base : Nat) (xs : List Tk) (W : World) (v0 : Value) (v : Value) (w : World) : Prop where
 own : w.ownsRow base 42 3 v xs.length (flatG Tk.cells xs)
 grow : W.grownBy w v0.ownBlock
theorem app_toks {W : World} {base B : Nat} {v : Value} {xs ys : List Tk} {A : Option Addr} {c : Nat} (hown : W.ownsRow base 42 3 v xs.length (flatG Tk.cells xs)) (hsl : TkSl W B A ys) (hn : xs.length + ys.length ≤ 4194304) (hbase : base ≤ W.heap.size) :
   ∃ v' w', (Builtin.append_ #[23, 23] 23 #[v, .slice A ys.length c]).run Tryz.prog W = .ok v' w' ∧ TkRow base (xs ++ ys) W v v' w' := by
 obtain ⟨j0, hj, hz0, hz1, hz2⟩ := info_parts tok_info
 rcases Nat.eq_zero_or_pos ys.length with h0 | h0
 · obtain rfl : ys = [] := List.eq_nil_of_length_eq_zero h0
   rw [List.append_nil]
   cases A with
   | none => exact ⟨_, _, run_append_zero base 23 23 42 j0 3 Tryz.underlying23 hj _ _ _ hown c, hown, World.grownBy.refl _ _⟩
   | some ad =>
     obtain ⟨v', w', hr, h2, h3, _, _⟩ := run_append_own_at (P := Tryz.prog) W base 23 23 42 j0 _ 3 32 Tryz.underlying23 hj hz0 hz1 hz2 rfl (by omega) _ _ _ hown ad 0 c [] rfl (fun j u hu => by simp at hu) (by simp) (by unfold maxLen; omega) (by omega) hbase
     rw [List.append_nil] at h2
     exact ⟨v', w', hr, h2, h3⟩
 · obtain ⟨b, o, hA, hbl, -⟩ := hsl (by intro e; rw [e] at h0; simp at h0)
   subst hA
   obtain ⟨v', w', hr, h2, h3, _, _⟩ := run_append_own_at (P := Tryz.prog) W base 23 23 42 j0 _ 3 32 Tryz.underlying23 hj hz0 hz1 hz2 rfl (by omega) _ _ _ hown ⟨b, o, none⟩ ys.length c (flatG Tk.cells ys) (flatG_len tk_ok ys)
     (fun j u hu => SlG.flat tk_ok hsl j u hu) (flatG_cell tk_ok ys) (by unfold maxLen; omega) (by omega) hbase
   rw [← flatG_append] at h2
   exact ⟨v', w', hr, by rw [List.length_append]; exact h2, h3⟩
end Go.Proofs.YtbggbcnfkcadjaaGreatDoor
