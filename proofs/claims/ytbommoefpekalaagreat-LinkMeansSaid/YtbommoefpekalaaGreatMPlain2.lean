/-
  PLAIN LAWS for LinkMeans: the slots put one behind the other.
-/
import Derived.Test.YtbommoefpekalaaGreatMPlain
import Derived.Test.YtbommoefpekalaaGreatSlo
namespace Go.Proofs.YtbommoefpekalaaGreat
open Go.RowKit Go.Sort

theorem name_le {l : List UInt8} (h : nameErr l = 0) : l.length ≤ 20 := by
  cases l with
  | nil => simp
  | cons a r =>
    have e : nameErr (a :: r) = if letterI (a.toNat : Int) = false then 1 else if (a :: r).all nameB = false then 1 else if 20 < (a :: r).length then 4 else 0 := rfl
    rw [e] at h
    split at h
    · cases h
    · split at h
      · cases h
      · split at h
        · cases h
        · omega
theorem text_le {l : List UInt8} (h : textErr l = 0) : l.length ≤ 60 := by
  unfold textErr at h
  split at h
  · cases h
  · omega
theorem var_le {l : List UInt8} (h : variableB l = true) : l.length ≤ 21 := by
  cases l with
  | nil => simp
  | cons a r =>
    have e : variableB (a :: r) = if a = 63 then nameErr r == 0 else nameErr (a :: r) == 0 && !reserved (a :: r) := rfl
    rw [e] at h
    split at h
    · have := name_le (by simpa using h); simp; omega
    · simp only [Bool.and_eq_true, beq_iff_eq] at h
      have := name_le h.1; omega
theorem emp_le {s : ByteArray} (h : s.toList.isEmpty = true) : s.size = 0 := by
  rw [← toList_len, List.isEmpty_iff.1 h]; rfl
theorem shaped_le {x : Nd} (h : shapedT x = true) : x.s.size ≤ 60 ∧ x.t.size ≤ 60 := by
  rw [← toList_len x.s, ← toList_len x.t]
  by_cases h4 : x.op = 1 ∨ x.op = 2 ∨ x.op = 3 ∨ x.op = 4
  · rw [shaped_low h4] at h
    unfold shapedV at h
    rcases h4 with e | e | e | e <;> rw [e] at h <;> simp [-List.length_eq_zero_iff] at h
    · rw [h.1.2, h.2]; simp
    · rw [h.1, h.2]; simp
    · rw [h.1.2]; exact ⟨text_le h.2, by simp⟩
    · exact ⟨Nat.le_trans (name_le h.1.2) (by omega), text_le h.2⟩
  unfold shapedT at h
  rw [if_neg h4] at h
  split at h
  · simp at h; rw [h.1.2, h.2]; simp
  split at h
  · simp at h; rw [h.1.2]; exact ⟨Nat.le_trans (var_le h.2) (by omega), by simp⟩
  split at h
  · simp at h; rw [h.1.2]; exact ⟨Nat.le_trans (name_le h.2) (by omega), by simp⟩
  split at h
  · simp at h; rw [h.1.2]; exact ⟨text_le h.2, by simp⟩
  · simp at h; rw [h.1.2, h.2]; simp
theorem ex_shaped {t : BTag} {xs : List Nd} (h : Ex t xs) : ∀ n ∈ xs, shapedT n = true := by
  induction h with
  | one n body fld hs _ _ ih =>
    intro m hm
    rcases List.mem_cons.1 hm with rfl | hm
    · exact hs
    · exact ih m hm
  | nil => simp
  | cons c r l m xs ys _ _ _ ih1 ih2 =>
    intro n hn
    rcases List.mem_append.1 hn with hn | hn
    · exact ih1 n hn
    · exact ih2 n hn
/-- The strings of an expression are short. -/
theorem tree_ok {e : List Nd} (h : treeErr e = 0) : NdOk e := fun x hx => by
  obtain ⟨h1, h2⟩ := shaped_le (ex_shaped ((tree_iff _).1 h).2 x hx)
  exact ⟨by omega, by omega⟩
theorem putL_one_len (e : List Nd) (s : ByteArray) (x : Nd) : (putL e s [x]).length = e.length := by
  induction e with
  | nil => rfl
  | cons n r ih =>
    rw [putL_cons, List.length_append, ih]
    split <;> simp <;> omega
def resL : List UInt8 := [63, 114, 101, 115, 111, 117, 114, 99, 101]
def priL : List UInt8 := [63, 112, 114, 105, 110, 99, 105, 112, 97, 108]
/-- The expression with the slots of some names filled, one behind the other. -/
def fillL (who what : Ud) (e : List Nd) (ss : List (List UInt8)) : List Nd := ss.foldl (fun e s => putL e ⟨s.toArray⟩ [entN (if s = resL then what else who)]) e
theorem fillL_step {who what : Ud} {e : List Nd} {ss : List (List UInt8)} {k : Nat} {s : List UInt8} (h : ss[k]? = some s) :
    fillL who what e (ss.take (k + 1)) = putL (fillL who what e (ss.take k)) ⟨s.toArray⟩ [entN (if s = resL then what else who)] := by
  unfold fillL; rw [List.take_add_one, h, List.foldl_append]; rfl
theorem fillL_len {who what : Ud} {e : List Nd} {ss : List (List UInt8)} : (fillL who what e ss).length = e.length := by
  unfold fillL
  induction ss generalizing e with
  | nil => rfl
  | cons s r ih => rw [List.foldl_cons, ih, putL_one_len]
theorem fillL_tree {who what : Ud} {e : List Nd} {ss : List (List UInt8)} (h : treeErr e = 0) (h1 : ∀ s ∈ ss, udErr (if s = resL then what else who) = 0) : treeErr (fillL who what e ss) = 0 := by
  unfold fillL
  induction ss generalizing e with
  | nil => exact h
  | cons s r ih =>
    rw [List.foldl_cons]
    refine ih (put_tree h (ent_tree (h1 s (List.mem_cons_self ..))) ?_) fun s hs => h1 s (List.mem_cons_of_mem _ hs)
    rw [putL_one_len]; exact (tree_len h).1
theorem fill_ud {s q : Sc} {u : Ud} (h : fillP s u = (q, 0)) (hs : slottedP s = true) : udErr u = 0 := by
  unfold fillP at h
  rw [if_pos hs] at h
  by_cases h0 : udErr u = 0
  · exact h0
  · rw [if_neg h0] at h; injection h with _ h
theorem fill_same {s q : Sc} {u : Ud} (h : fillP s u = (q, 0)) (hs : slottedP s = false) : q = s := by
  unfold fillP at h
  rw [if_neg (by simp [hs])] at h
  injection h with h _; exact h.symm
theorem q_pri : (⟨priL.toArray⟩ : ByteArray) = qB prB := rfl
theorem q_res : (⟨resL.toArray⟩ : ByteArray) = qB reB := rfl
theorem slots_ud {p q : Po} {who what : Ud} (h : linkP p who what = (q, 0)) : ∀ s ∈ slotsP p, udErr (if s = resL then what else who) = 0 := by
  obtain ⟨h1, q1, q2, h2, h3, rfl⟩ := link_ok h
  intro s hs
  unfold slotsP at hs
  rcases List.mem_append.1 hs with hs | hs
  · split at hs
    · rename_i hw
      rw [List.mem_singleton] at hs
      subst hs
      rw [if_neg (by unfold resL; decide)]; exact fill_ud h2 hw
    · cases hs
  · split at hs
    · rename_i hw
      rw [List.mem_singleton] at hs
      subst hs
      rw [if_pos (show [63, 114, 101, 115, 111, 117, 114, 99, 101] = resL from rfl)]; exact fill_ud h3 hw
    · cases hs
theorem slots_none {p q : Po} {who what : Ud} (h : linkP p who what = (q, 0)) : slotsP q = [] := by
  obtain ⟨_, h1, h2⟩ := link_pol h
  unfold slotsP
  rw [h1, h2]; rfl
/-- The policy filled has the expression with the slots filled. -/
theorem link_expr {p q : Po} {who what : Ud} (h : linkP p who what = (q, 0)) : fillL who what (exprE p) (slotsP p) = exprE q := by
  obtain ⟨h1, q1, q2, h2, h3, rfl⟩ := link_ok h
  have hc := cds_each (pol_ok.1 h1).2.2.2.2.2
  have pa : (acB.toList == prB.toList) = false := by rw [ByteArray.toList_eq, ByteArray.toList_eq]; decide
  have pr : (reB.toList == prB.toList) = false := by rw [ByteArray.toList_eq, ByteArray.toList_eq]; decide
  have rp : (prB.toList == reB.toList) = false := by rw [ByteArray.toList_eq, ByteArray.toList_eq]; decide
  have ra : (acB.toList == reB.toList) = false := by rw [ByteArray.toList_eq, ByteArray.toList_eq]; decide
  have hp : ∀ (s1 s2 s3 : List Nd) x, putL (exprC (andE (andE s1 s2) s3) p.conds) (qB prB) x = exprC (andE (andE (putL s1 (qB prB) x) (putL s2 (qB prB) x)) (putL s3 (qB prB) x)) p.conds := fun s1 s2 s3 x => by
    rw [putL_exprC fun c hc' => cond_put (hc c hc') prB x, putL_and, putL_and]
  have hr : ∀ (s1 s2 s3 : List Nd) x, putL (exprC (andE (andE s1 s2) s3) p.conds) (qB reB) x = exprC (andE (andE (putL s1 (qB reB) x) (putL s2 (qB reB) x)) (putL s3 (qB reB) x)) p.conds := fun s1 s2 s3 x => by
    rw [putL_exprC fun c hc' => cond_put (hc c hc') reB x, putL_and, putL_and]
  have e0 : exprE p = exprC (andE (andE (scopeE p.who prB) (scopeE p.act acB)) (scopeE p.what reB)) p.conds := rfl
  have e1 : fillL who what (exprE p) (if slottedP p.who = true then [priL] else []) = exprC (andE (andE (scopeE q1 prB) (scopeE p.act acB)) (scopeE p.what reB)) p.conds := by
    by_cases hw : slottedP p.who = true
    · rw [if_pos hw]
      show putL (exprE p) ⟨priL.toArray⟩ [entN (if priL = resL then what else who)] = _
      rw [if_neg (by unfold priL resL; decide), q_pri, e0, hp, scope_fill nameOk_pr h2 hw, scope_stay nameOk_ac (.inr pa), scope_stay nameOk_re (.inr pr)]
    · rw [if_neg hw, fill_same h2 (by simpa using hw)]; rfl
  have e2 : fillL who what (exprC (andE (andE (scopeE q1 prB) (scopeE p.act acB)) (scopeE p.what reB)) p.conds) (if slottedP p.what = true then [resL] else []) = exprC (andE (andE (scopeE q1 prB) (scopeE p.act acB)) (scopeE q2 reB)) p.conds := by
    by_cases hw : slottedP p.what = true
    · rw [if_pos hw]
      show putL _ ⟨resL.toArray⟩ [entN (if resL = resL then what else who)] = _
      rw [if_pos rfl, q_res, hr, scope_fill nameOk_re h3 hw, scope_stay nameOk_ac (.inr ra), scope_stay nameOk_pr (.inr rp)]
    · rw [if_neg hw, fill_same h3 (by simpa using hw)]; rfl
  have hs : slotsP p = (if slottedP p.who = true then [priL] else []) ++ (if slottedP p.what = true then [resL] else []) := rfl
  rw [hs]
  unfold fillL at e1 e2 ⊢
  rw [List.foldl_append, e1, e2]
  rfl
end Go.Proofs.YtbommoefpekalaaGreat
