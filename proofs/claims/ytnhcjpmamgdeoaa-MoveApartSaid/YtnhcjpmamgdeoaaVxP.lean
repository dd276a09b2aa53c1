/-
  PLAIN WORDS: the order of lists of nodes; values, piece by piece.
-/
import Derived.Test.YtnhcjpmamgdeoaaMvP2
import Derived.Test.YtnhcjpmamgdeoaaMvS
namespace Go.Proofs.Ytnhcjpmamgdeoaa
open Go.RowKit Go.Sort

/-- A comparison that tells an order. -/
structure Cm {α : Type} (c : α → α → Int) : Prop where
  self : ∀ x, c x x = 0
  eq : ∀ x y, c x y = 0 → x = y
  flip : ∀ x y, 0 < c x y ↔ c y x < 0
  trans : ∀ x y z, c x y < 0 → c y z < 0 → c x z < 0
theorem cm_int : Cm cmpI := by
  refine ⟨fun x => ?_, fun x y h => ?_, fun x y => ?_, fun x y z h1 h2 => ?_⟩
  · simp [cmpI]
  · simp only [cmpI] at h; (repeat' split at h) <;> omega
  · simp only [cmpI]; (repeat' split) <;> omega
  · simp only [cmpI] at h1 h2 ⊢; (repeat' split at h1) <;> (repeat' split at h2) <;> (repeat' split) <;> omega
theorem cm_list : Cm Lib.compareBytes := by
  have hs : ∀ x, Lib.compareBytes x x = 0 := fun x => by
    have h1 : ¬ Lib.compareBytes x x < 0 := fun h => List.lt_irrefl _ ((cmp_neg _ _).1 h)
    have h2 : ¬ 0 < Lib.compareBytes x x := fun h => List.lt_irrefl _ ((cmp_pos _ _).1 h)
    omega
  refine ⟨hs, fun x y h => ?_, fun x y => by rw [cmp_pos, cmp_neg], fun x y z h1 h2 => ?_⟩
  · have h1 : ¬ x < y := fun hh => by have := (cmp_neg x y).2 hh; omega
    have h2 : ¬ y < x := fun hh => by have := (cmp_pos x y).2 hh; omega
    rcases le_cases (List.not_lt.1 h2) with h3 | h3
    · exact absurd h3 h1
    · exact h3
  · rw [cmp_neg] at h1 h2 ⊢; exact List.lt_trans h1 h2
theorem Cm.inj {α β : Type} {c : β → β → Int} (h : Cm c) (f : α → β) (hf : ∀ x y, f x = f y → x = y) : Cm fun x y => c (f x) (f y) :=
  ⟨fun x => h.self _, fun x y e => hf _ _ (h.eq _ _ e), fun x y => h.flip _ _, fun x y z => h.trans _ _ _⟩
theorem Cm.lex {α β : Type} {c : α → α → Int} {d : β → β → Int} (hc : Cm c) (hd : Cm d) : Cm fun x y : α × β => if c x.1 y.1 = 0 then d x.2 y.2 else c x.1 y.1 := by
  have hz : ∀ x y, c x y = 0 → c y x = 0 := fun x y h => by rw [hc.eq x y h, hc.self]
  refine ⟨fun x => by simp [hc.self, hd.self], fun x y h => ?_, fun x y => ?_, fun x y z h1 h2 => ?_⟩
  · by_cases h0 : c x.1 y.1 = 0
    · simp only [h0, if_true] at h
      exact Prod.ext (hc.eq _ _ h0) (hd.eq _ _ h)
    · simp only [h0, if_false] at h
  · by_cases h0 : c x.1 y.1 = 0
    · have h1 := hz _ _ h0
      simp only [h0, h1, if_true]
      exact hd.flip _ _
    · have h1 : ¬ c y.1 x.1 = 0 := fun h => h0 (hz _ _ h)
      simp only [h0, h1, if_false]
      exact hc.flip _ _
  · by_cases h0 : c x.1 y.1 = 0
    · simp only [h0, if_true] at h1
      have e := hc.eq _ _ h0
      rw [e]
      by_cases h3 : c y.1 z.1 = 0
      · simp only [h3, if_true] at h2 ⊢
        exact hd.trans _ _ _ h1 h2
      · simp only [h3, if_false] at h2 ⊢
        exact h2
    · simp only [h0, if_false] at h1
      by_cases h3 : c y.1 z.1 = 0
      · have e := hc.eq _ _ h3
        rw [← e]
        simp only [h0, if_false]
        exact h1
      · simp only [h3, if_false] at h2
        have h4 := hc.trans _ _ _ h1 h2
        have h5 : ¬ c x.1 z.1 = 0 := by omega
        simp only [h5, if_false]
        exact h4
theorem bytes_ext {x y : ByteArray} (h : x.data.toList = y.data.toList) : x = y := by
  cases x; cases y; simp at h; rw [h]
theorem cm_nd : Cm ndCmp := by
  have h : ndCmp = fun x y : Nd => if cmpI x.op y.op = 0 then (if cmpI x.n y.n = 0 then (if Lib.compareBytes x.s.data.toList y.s.data.toList = 0 then Lib.compareBytes x.t.data.toList y.t.data.toList else Lib.compareBytes x.s.data.toList y.s.data.toList) else cmpI x.n y.n) else cmpI x.op y.op := by
    funext x y
    unfold ndCmp
    simp only [orI]
    split
    · split
      · split
        · split
          · rename_i h; exact h.symm
          · rfl
        · rfl
      · rfl
    · rfl
  rw [h]
  have hb : Cm fun x y : ByteArray => Lib.compareBytes x.data.toList y.data.toList := cm_list.inj (fun x : ByteArray => x.data.toList) fun _ _ => bytes_ext
  exact (cm_int.lex (cm_int.lex (hb.lex hb))).inj (fun x : Nd => (x.op, x.n, x.s, x.t)) fun x y h => by
    cases x; cases y; simp at h; simp [h]
theorem cm_nds : Cm ndsCmp := by
  have hn := cm_nd
  have hz : ∀ x y, ndCmp x y = 0 → ndCmp y x = 0 := fun x y h => by rw [hn.eq x y h, hn.self]
  refine ⟨fun x => ?_, fun x => ?_, fun x => ?_, fun x => ?_⟩
  · induction x with
    | nil => rfl
    | cons a r ih => simp [ndsCmp, hn.self, ih]
  · induction x with
    | nil => intro y h; cases y with
      | nil => rfl
      | cons b s => simp [ndsCmp] at h
    | cons a r ih =>
      intro y h
      cases y with
      | nil => simp [ndsCmp] at h
      | cons b s =>
        rw [ndsCmp] at h
        split at h
        · rename_i h0; rw [hn.eq _ _ h0, ih s h]
        · rename_i h0; exact absurd h h0
  · induction x with
    | nil => intro y; cases y with
      | nil => simp [ndsCmp]
      | cons b s => simp [ndsCmp]
    | cons a r ih =>
      intro y
      cases y with
      | nil => simp [ndsCmp]
      | cons b s =>
        rw [ndsCmp, ndsCmp]
        by_cases h0 : ndCmp a b = 0
        · rw [if_pos h0, if_pos (hz _ _ h0)]; exact ih s
        · rw [if_neg h0, if_neg (fun h => h0 (hz _ _ h))]; exact hn.flip _ _
  · induction x with
    | nil => intro y z h1 h2; cases y with
      | nil => simp [ndsCmp] at h1
      | cons b s => cases z with
        | nil => simp [ndsCmp] at h2
        | cons d u => simp [ndsCmp]
    | cons a r ih =>
      intro y z h1 h2
      cases y with
      | nil => simp [ndsCmp] at h1
      | cons b s => cases z with
        | nil => simp [ndsCmp] at h2
        | cons d u =>
          rw [ndsCmp] at h1 h2 ⊢
          by_cases h0 : ndCmp a b = 0
          · rw [if_pos h0] at h1
            have e := hn.eq _ _ h0
            rw [e]
            by_cases h3 : ndCmp b d = 0
            · rw [if_pos h3] at h2 ⊢; exact ih _ _ h1 h2
            · rw [if_neg h3] at h2 ⊢; exact h2
          · rw [if_neg h0] at h1
            by_cases h3 : ndCmp b d = 0
            · rw [← hn.eq _ _ h3, if_neg h0]; exact h1
            · rw [if_neg h3] at h2
              have h4 := hn.trans _ _ _ h1 h2
              rw [if_neg (by omega)]; exact h4
theorem Cm.swo {α : Type} {c : α → α → Int} (h : Cm c) : SWO (ltOf c) := by
  refine ⟨fun x => by simp [ltOf, h.self], fun x y z h1 h2 => ?_, fun x y z h1 h2 => ?_⟩
  · simp only [ltOf, decide_eq_true_eq] at h1 h2 ⊢; exact h.trans _ _ _ h1 h2
  · simp only [ltOf, decide_eq_false_iff_not] at h1 h2 ⊢
    intro h3
    have h4 : 0 < c z x := (h.flip _ _).2 h3
    by_cases e1 : c x y = 0
    · rw [h.eq _ _ e1] at h3; exact h2 h3
    · have a1 : c y x < 0 := (h.flip _ _).1 (by omega)
      by_cases e2 : c y z = 0
      · rw [← h.eq _ _ e2] at h3; exact h1 h3
      · have a2 : c z y < 0 := (h.flip _ _).1 (by omega)
        have := h.trans _ _ _ a2 a1
        omega
/-- Two lists that rise, of the same things. -/
theorem pw_eq {α : Type} {R : α → α → Prop} (hi : ∀ x, ¬ R x x) (ht : ∀ x y z, R x y → R y z → R x z) : ∀ {ps qs : List α}, ps.Pairwise R → qs.Pairwise R → ps.Perm qs → ps = qs
  | [], qs, _, _, h => (List.Perm.nil_eq h)
  | p :: ps, [], _, _, h => absurd h.symm (fun h => by have := List.Perm.nil_eq h; cases this)
  | p :: ps, q :: qs, hp, hq, h => by
    have hp' := List.pairwise_cons.1 hp
    have hq' := List.pairwise_cons.1 hq
    have e : p = q := by
      rcases List.mem_cons.1 (h.mem_iff.1 (List.mem_cons_self)) with e | h1
      · exact e
      · rcases List.mem_cons.1 (h.mem_iff.2 (List.mem_cons_self (a := q))) with e | h2
        · exact e.symm
        · exact absurd (ht _ _ _ (hp'.1 _ h2) (hq'.1 _ h1)) (hi _)
    subst e
    rw [pw_eq hi ht hp'.2 hq'.2 (List.Perm.cons_inv h)]
def LtN (a b : List Nd) : Prop := ndsCmp a b < 0
theorem ltN_irrefl (x : List Nd) : ¬ LtN x x := by unfold LtN; rw [cm_nds.self]; omega
theorem ltN_trans (x y z : List Nd) : LtN x y → LtN y z → LtN x z := cm_nds.trans x y z
theorem le_sorted (qs : List (List Nd)) : (qs.mergeSort ndsLe).Pairwise fun a b => ndsCmp a b ≤ 0 := by
  have h := cm_nds.swo
  have h1 : (qs.mergeSort ndsLe).Pairwise fun a b => ndsLe a b = true := List.pairwise_mergeSort
    (by
      intro a b c h1 h2
      simp only [ndsLe, decide_eq_true_eq] at h1 h2 ⊢
      have := h.ntrans c b a
      simp only [ltOf, decide_eq_false_iff_not] at this
      have f1 := cm_nds.flip a b
      have f2 := cm_nds.flip b c
      have f3 := cm_nds.flip a c
      by_cases hh : ndsCmp c a < 0
      · exact absurd hh (this (fun hx => by have := f2.2 hx; omega) (fun hx => by have := f1.2 hx; omega))
      · have : ¬ 0 < ndsCmp a c := fun hx => hh (f3.1 hx)
        omega)
    (by
      intro a b
      simp only [ndsLe, Bool.or_eq_true, decide_eq_true_eq]
      have := cm_nds.flip a b
      by_cases hh : ndsCmp a b ≤ 0
      · exact .inl hh
      · exact .inr (by have := this.1 (by omega); omega)) _
  refine h1.imp fun h => ?_
  simpa [ndsLe] using h
theorem dedup_pw : ∀ (l : List (List Nd)) (a : List Nd), (a :: l).Pairwise (fun a b => ndsCmp a b ≤ 0) → (a :: dedupA a l).Pairwise LtN
  | [], a, _ => by simp [dedupA]
  | b :: r, a, h => by
    have h1 := List.pairwise_cons.1 h
    have h2 := List.pairwise_cons.1 h1.2
    rw [dedupA]
    by_cases h0 : ndsCmp a b = 0
    · rw [if_pos h0]
      exact dedup_pw r a (List.pairwise_cons.2 ⟨fun c hc => h1.1 c (by simp [hc]), h2.2⟩)
    · rw [if_neg h0]
      have ih := dedup_pw r b h1.2
      have hab : LtN a b := by have := h1.1 b (by simp); unfold LtN; omega
      refine List.pairwise_cons.2 ⟨fun c hc => ?_, ih⟩
      rcases List.mem_cons.1 hc with rfl | hc
      · exact hab
      · exact ltN_trans _ _ _ hab ((List.pairwise_cons.1 ih).1 c hc)
theorem setParts_pw (qs : List (List Nd)) : (setParts qs).Pairwise LtN := by
  have h := le_sorted qs
  unfold setParts
  cases hq : qs.mergeSort ndsLe with
  | nil => simp [dedupP]
  | cons a l => rw [hq] at h; exact dedup_pw l a h
theorem dedup_sub : ∀ (l : List (List Nd)) (a : List Nd), (dedupA a l).Sublist l
  | [], a => by simp [dedupA]
  | b :: r, a => by
    rw [dedupA]
    split
    · exact (dedup_sub r a).cons _
    · exact (dedup_sub r b).cons_cons _
theorem dedupP_sub : ∀ (l : List (List Nd)), (dedupP l).Sublist l
  | [] => .slnil
  | a :: l => (dedup_sub l a).cons_cons _
theorem dedup_id : ∀ (l : List (List Nd)) (a : List Nd), (a :: l).Pairwise LtN → dedupA a l = l
  | [], a, _ => rfl
  | b :: r, a, h => by
    have h1 := List.pairwise_cons.1 h
    have : LtN a b := h1.1 b (by simp)
    rw [dedupA, if_neg (by unfold LtN at this; omega), dedup_id r b h1.2]
theorem dedupP_id {l : List (List Nd)} (h : l.Pairwise LtN) : dedupP l = l := by
  cases l with
  | nil => rfl
  | cons a l => rw [dedupP, dedup_id l a h]
theorem sorted_nodup {qs : List (List Nd)} (h : qs.Nodup) : (qs.mergeSort ndsLe).Pairwise LtN := by
  have h2 : (qs.mergeSort ndsLe).Nodup := (List.mergeSort_perm _ _).nodup_iff.2 h
  refine ((le_sorted qs).and h2).imp ?_
  rintro a b ⟨h3, h4⟩
  unfold LtN
  have : ndsCmp a b ≠ 0 := fun e => h4 (cm_nds.eq _ _ e)
  omega
theorem setParts_perm {qs : List (List Nd)} (h : qs.Nodup) : (setParts qs).Perm qs := by
  unfold setParts
  rw [dedupP_id (sorted_nodup h)]
  exact List.mergeSort_perm _ _
theorem ltN_nodup {qs : List (List Nd)} (h : qs.Pairwise LtN) : qs.Nodup := h.imp fun h e => by subst e; exact ltN_irrefl _ h
theorem setParts_of {ps qs : List (List Nd)} (h : qs.Perm ps) (hp : ps.Pairwise LtN) : setParts qs = ps := by
  have hn : qs.Nodup := h.nodup_iff.2 (ltN_nodup hp)
  exact pw_eq ltN_irrefl ltN_trans (setParts_pw qs) hp ((setParts_perm hn).trans h)
end Go.Proofs.Ytnhcjpmamgdeoaa
