/-
  PLAIN LAWS for LinkMeans: a policy's expression is an expression; with the slots filled it is that of the policy filled.
-/
import Derived.Test.YtbommoefpekalaaGreatEx3
import Derived.Test.YtbommoefpekalaaGreatLnkA
namespace Go.Proofs.YtbommoefpekalaaGreat
open Go.RowKit Go.Sort

theorem ex_leaf (n : Nd) (h : shapedT n = true) (h0 : ndParts n = 0) (h7 : (n.op == 7) = false) : Ex (.one false) [n] :=
  .one n [] false h h7 (by rw [h0]; exact .nil _ _)
theorem ex_one (n m : Nd) (xs : List Nd) (h : shapedT n = true) (h1 : ndParts n = 1) (h7 : (n.op == 7) = false) (h6 : (n.op == 6) = false) (hx : Ex (.one false) (m :: xs)) : Ex (.one false) (n :: m :: xs) := by
  refine .one n _ false h h7 ?_
  rw [h1, h6]
  have := Ex.cons 0 false ⟨#[]⟩ m xs [] (by simp) hx (.nil _ _)
  rwa [List.append_nil] at this
theorem ex_two (n : Nd) (a b : List Nd) (h : shapedT n = true) (h2 : ndParts n = 2) (h7 : (n.op == 7) = false) (h6 : (n.op == 6) = false) (ha : Ex (.one false) a) (hb : Ex (.one false) b) : Ex (.one false) (n :: (a ++ b)) := by
  refine .one n _ false h h7 ?_
  rw [h2, h6]
  cases ha with
  | one m xs _ s1 s2 s3 =>
    cases hb with
    | one m' ys _ t1 t2 t3 =>
      have hb' := Ex.cons 0 false ⟨#[]⟩ m' ys [] (by simp) (.one m' ys false t1 t2 t3) (.nil _ _)
      rw [List.append_nil] at hb'
      exact Ex.cons 1 false ⟨#[]⟩ m xs (m' :: ys) (by simp) (.one m xs false s1 s2 s3) hb'
theorem opN_shaped {k : Int} (h : k = 9 ∨ k = 11 ∨ k = 14 ∨ k = 20) : shapedT (opN k) = true := by
  rcases h with rfl | rfl | rfl | rfl <;> simp [shapedT, opN, eB, ndParts, ByteArray.toList_eq]
theorem and_ex {a b : List Nd} (ha : Ex (.one false) a) (hb : Ex (.one false) b) : Ex (.one false) (andE a b) :=
  ex_two (opN 11) a b (opN_shaped (by simp)) rfl rfl rfl ha hb
theorem one_valM {x : Nd} (h : x.op = 1 ∨ x.op = 2 ∨ x.op = 3 ∨ x.op = 4) : (valErr [x] == 0) = shapedV x := by
  have h5 : ¬ x.op = 5 := by omega
  have h6 : ¬ x.op = 6 := by omega
  have h7 : ¬ x.op = 7 := by omega
  cases hs : shapedV x <;> simp [valErr, vGo, hs, h5, h6, h7]
theorem shaped_low {x : Nd} (h : x.op = 1 ∨ x.op = 2 ∨ x.op = 3 ∨ x.op = 4) : shapedT x = shapedV x := by
  unfold shapedT; rw [if_pos h, one_valM h]
theorem var_ex {v : ByteArray} (h : variableB v.toList = true) : Ex (.one false) [varN v] :=
  ex_leaf _ (by simp [shapedT, varN, eB, ByteArray.toList_eq] at h ⊢; exact h) rfl rfl
theorem ud_parts {u : Ud} (h : udErr u = 0) : nameErr u.ty.toList = 0 ∧ textErr u.id.toList = 0 := by
  unfold udErr at h
  split at h
  · exact ⟨‹_›, h⟩
  · rename_i hn; exact absurd h hn
theorem ent_ex {u : Ud} (h : udErr u = 0) : Ex (.one false) [entN u] := by
  obtain ⟨hn, ht⟩ := ud_parts h
  exact ex_leaf _ (by rw [shaped_low (by simp [entN])]; simp [shapedV, entN, hn, ht]) rfl rfl
theorem true_ex : Ex (.one false) [(⟨1, 1, eB, eB⟩ : Nd)] :=
  ex_leaf _ (by rw [shaped_low (by simp)]; simp [shapedV, eB, ByteArray.toList_eq]) rfl rfl
theorem is_ex {t v : ByteArray} (h : nameErr t.toList = 0) (hv : variableB v.toList = true) : Ex (.one false) [(⟨24, 0, t, eB⟩ : Nd), varN v] :=
  ex_one _ _ _ (by simp [shapedT, eB, ByteArray.toList_eq] at h ⊢; exact h) rfl rfl rfl (var_ex hv)
/-- A name that may stand for something, as its slot's name may. -/
structure VarOk (v : ByteArray) : Prop where
  pv : variableB v.toList = true
  pq : variableB (qB v).toList = true
  pn : v.toList.head? ≠ some 63
theorem qB_list (v : ByteArray) : (qB v).toList = 63 :: v.toList := by
  rw [ByteArray.toList_eq, ByteArray.toList_eq]; unfold qB; simp
theorem scope_ex {s : Sc} {b : Bool} {v : ByteArray} (h : scOk s b = true) (hv : VarOk v) : Ex (.one false) (scopeE s v) := by
  have e := var_ex hv.pv
  have q := var_ex hv.pq
  unfold scopeE
  by_cases h1 : s.op = 1
  · rw [if_pos h1]
    have : udErr s.uid = 0 := by simp [scOk, h1, udOk] at h; exact h.1
    exact ex_two _ _ _ (opN_shaped (by simp)) rfl rfl rfl e (ent_ex this)
  rw [if_neg h1]
  by_cases h2 : s.op = 2
  · rw [if_pos h2]
    have : udErr s.uid = 0 := by simp [scOk, h2, udOk] at h; exact h.1
    exact ex_two _ _ _ (opN_shaped (by simp)) rfl rfl rfl e (ent_ex this)
  rw [if_neg h2]
  by_cases h3 : s.op = 3
  · rw [if_pos h3]
    have : nameErr s.ty.toList = 0 := by simp [scOk, h3] at h; exact h.1
    exact is_ex this hv.pv
  rw [if_neg h3]
  by_cases h4 : s.op = 4
  · rw [if_pos h4]
    have h' : nameErr s.ty.toList = 0 ∧ udErr s.uid = 0 := by simp [scOk, h4, udOk] at h; exact h
    exact ex_two (opN 11) [⟨24, 0, s.ty, eB⟩, varN v] [opN 20, varN v, entN s.uid] (opN_shaped (by simp)) rfl rfl rfl (is_ex h'.1 hv.pv) (ex_two _ _ _ (opN_shaped (by simp)) rfl rfl rfl e (ent_ex h'.2))
  rw [if_neg h4]
  by_cases h5 : s.op = 5
  · rw [if_pos h5]; exact ex_two _ _ _ (opN_shaped (by simp)) rfl rfl rfl e q
  rw [if_neg h5]
  by_cases h6 : s.op = 6
  · rw [if_pos h6]; exact ex_two _ _ _ (opN_shaped (by simp)) rfl rfl rfl e q
  rw [if_neg h6]
  exact true_ex
theorem cond_ex {c : Cd} (h : cdErr c.expr = 0) : Ex (.one false) (condE c) := by
  have ht : treeErr c.expr = 0 := by
    unfold cdErr at h
    split at h
    · rename_i hn; exact absurd h hn
    · rename_i hn; simpa using hn
  have hx := ((tree_iff _).1 ht).2
  unfold condE
  generalize c.expr = e at hx
  split
  · cases hx with
    | one m xs _ s1 s2 s3 => exact ex_one _ _ _ (opN_shaped (by simp)) rfl rfl rfl (.one m xs false s1 s2 s3)
  · exact hx
theorem cds_each {l : List Cd} (h : cdsErr l = 0) : ∀ c ∈ l, cdErr c.expr = 0 := by
  induction l with
  | nil => simp
  | cons y r ih =>
    have e : cdsErr (y :: r) = if cdErr y.expr ≠ 0 then cdErr y.expr else cdsErr r := rfl
    rw [e] at h
    by_cases hn : cdErr y.expr = 0
    · rw [if_neg (by simp [hn])] at h
      intro c hc
      rcases List.mem_cons.1 hc with rfl | hc
      · exact hn
      · exact ih h c hc
    · rw [if_pos hn] at h; exact absurd h hn
def exprC (e0 : List Nd) (l : List Cd) : List Nd := l.foldl (fun e c => andE e (condE c)) e0
theorem exprC_ex {e0 : List Nd} {l : List Cd} (h0 : Ex (.one false) e0) (h : ∀ c ∈ l, cdErr c.expr = 0) : Ex (.one false) (exprC e0 l) := by
  induction l generalizing e0 with
  | nil => exact h0
  | cons y r ih => exact ih (and_ex h0 (cond_ex (h y (List.mem_cons_self ..)))) fun c hc => h c (List.mem_cons_of_mem _ hc)
theorem nameOk_pr : VarOk prB := ⟨by rw [ByteArray.toList_eq]; decide, by rw [qB_list, ByteArray.toList_eq]; decide, by rw [ByteArray.toList_eq]; decide⟩
theorem nameOk_ac : VarOk acB := ⟨by rw [ByteArray.toList_eq]; decide, by rw [qB_list, ByteArray.toList_eq]; decide, by rw [ByteArray.toList_eq]; decide⟩
theorem nameOk_re : VarOk reB := ⟨by rw [ByteArray.toList_eq]; decide, by rw [qB_list, ByteArray.toList_eq]; decide, by rw [ByteArray.toList_eq]; decide⟩
theorem expr_ex {p : Po} (h : polErr p = 0) : Ex (.one false) (exprE p) := by
  obtain ⟨_, h1, h2, h3, _, h5⟩ := pol_ok.1 h
  exact exprC_ex (and_ex (and_ex (scope_ex h1 nameOk_pr) (scope_ex h2 nameOk_ac)) (scope_ex h3 nameOk_re)) (cds_each h5)
theorem expr_tree {p : Po} (h : polErr p = 0) (hl : (exprE p).length ≤ 200) : treeErr (exprE p) = 0 := (tree_iff _).2 ⟨hl, expr_ex h⟩
theorem ent_tree {u : Ud} (h : udErr u = 0) : treeErr [entN u] = 0 := (tree_iff _).2 ⟨by simp, ent_ex h⟩

theorem putL_and (a b : List Nd) (t : ByteArray) (x : List Nd) : putL (andE a b) t x = andE (putL a t x) (putL b t x) := by
  simp [andE, putL_cons, putL_append, isVar, opN]
theorem putL_exprC {e0 : List Nd} {l : List Cd} {t : ByteArray} {x : List Nd} (h : ∀ c ∈ l, putL (condE c) t x = condE c) : putL (exprC e0 l) t x = exprC (putL e0 t x) l := by
  induction l generalizing e0 with
  | nil => rfl
  | cons y r ih =>
    show putL (exprC (andE e0 (condE y)) r) t x = exprC (andE (putL e0 t x) (condE y)) r
    rw [ih (fun c hc => h c (List.mem_cons_of_mem _ hc)), putL_and, h y (List.mem_cons_self ..)]
/-- A condition names no slot. -/
theorem cond_put {c : Cd} (h : cdErr c.expr = 0) (v : ByteArray) (x : List Nd) : putL (condE c) (qB v) x = condE c := by
  have hs : c.expr.any slotN = false := by
    unfold cdErr at h
    split at h
    · rename_i hn; exact absurd h hn
    · split at h
      · cases h
      · rename_i hn; simpa using hn
  refine putL_absent x ?_
  rw [varNames_mem]
  rintro ⟨n, hn, h8, hq⟩
  have hm : n ∈ c.expr := by
    unfold condE at hn
    split at hn
    · rcases List.mem_cons.1 hn with rfl | hn
      · simp [opN] at h8
      · exact hn
    · exact hn
  have : c.expr.any slotN = true := by
    rw [List.any_eq_true]
    refine ⟨n, hm, ?_⟩
    unfold slotN slotB
    rw [h8, hq, qB_list]; rfl
  rw [hs] at this; cases this
theorem isVar_var (v : ByteArray) (hv : v.toList.head? ≠ some 63) (q : ByteArray) : isVar (qB q) (varN v) = false := by
  unfold isVar
  have : (v.toList == (qB q).toList) = false := by
    rw [qB_list]
    cases hl : v.toList with
    | nil => rfl
    | cons a r =>
      rw [hl] at hv
      simp at hv ⊢
      intro h; exact absurd h hv
  show (_ && (v.toList == (qB q).toList)) = false
  rw [this, Bool.and_false]
theorem isVar_slot (v q : ByteArray) : isVar (qB q) (varN (qB v)) = (v.toList == q.toList) := by
  unfold isVar
  show ((8 : Int) == 8 && ((qB v).toList == (qB q).toList)) = _
  rw [qB_list, qB_list]; simp
/-- A scope that is filled. -/
theorem scope_fill {s q : Sc} {u : Ud} {v : ByteArray} (hv : VarOk v) (h : fillP s u = (q, 0)) (hs : slottedP s = true) : putL (scopeE s v) (qB v) [entN u] = scopeE q v := by
  have hu : udErr u = 0 := by
    unfold fillP at h
    rw [if_pos hs] at h
    by_cases h0 : udErr u = 0
    · exact h0
    · rw [if_neg h0] at h; injection h with _ h
  have hq : q = ⟨s.op - 4, ⟨#[]⟩, u⟩ := by
    unfold fillP at h
    rw [if_pos hs, if_pos hu] at h
    injection h with h _; exact h.symm
  subst hq
  have i1 := isVar_var v hv.pn v
  have i2 : isVar (qB v) (varN (qB v)) = true := by rw [isVar_slot]; simp
  have i3 : ∀ k, ¬ k = 8 → isVar (qB v) (opN k) = false := fun k hk => by simp [isVar, opN, hk]
  have h56 : s.op = 5 ∨ s.op = 6 := by simpa [slottedP] using hs
  rcases h56 with h5 | h6
  · simp [scopeE, h5, putL_cons, putL_nil, i1, i2, i3]
  · simp [scopeE, h6, putL_cons, putL_nil, i1, i2, i3]
/-- A slot of another name stays. -/
theorem scope_stay {s : Sc} {v w : ByteArray} {x : List Nd} (hv : VarOk v) (h : slottedP s = false ∨ (v.toList == w.toList) = false) : putL (scopeE s v) (qB w) x = scopeE s v := by
  have i1 := isVar_var v hv.pn w
  have i3 : ∀ k, ¬ k = 8 → isVar (qB w) (opN k) = false := fun k hk => by simp [isVar, opN, hk]
  have i4 : ∀ u, isVar (qB w) (entN u) = false := fun u => by simp [isVar, entN]
  have i5 : ∀ t, isVar (qB w) ⟨24, 0, t, eB⟩ = false := fun t => by simp [isVar]
  have i6 : isVar (qB w) ⟨1, 1, eB, eB⟩ = false := by simp [isVar]
  by_cases h5 : s.op = 5
  · have i2 : isVar (qB w) (varN (qB v)) = false := by
      rw [isVar_slot]
      rcases h with h | h
      · simp [slottedP, h5] at h
      · exact h
    simp [scopeE, h5, putL_cons, putL_nil, i1, i2, i3]
  by_cases h6 : s.op = 6
  · have i2 : isVar (qB w) (varN (qB v)) = false := by
      rw [isVar_slot]
      rcases h with h | h
      · simp [slottedP, h6] at h
      · exact h
    simp [scopeE, h6, putL_cons, putL_nil, i1, i2, i3]
  unfold scopeE
  rw [if_neg h5, if_neg h6]
  repeat' split
  all_goals simp [putL_cons, putL_nil, i1, i3, i4, i5, i6]
end Go.Proofs.YtbommoefpekalaaGreat
