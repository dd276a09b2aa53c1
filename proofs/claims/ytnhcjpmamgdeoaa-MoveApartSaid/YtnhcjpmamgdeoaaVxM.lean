/-
  PLAIN LAW: what is moved stays what it is; there and back.
-/
import Derived.Test.YtnhcjpmamgdeoaaVxP2
namespace Go.Proofs.Ytnhcjpmamgdeoaa
open Go.RowKit Go.Sort

theorem ren_shapedV {m : Mv} (hm : mvErr m = 0) {x : Nd} (h : shapedV x = true) : shapedV (ren m x) = true := by
  unfold ren
  split
  · rename_i hc
    have hl := hc.1
    have ht := (mv_ok hm).2.2
    have ho : x.op = 7 ∨ x.op = 4 := by
      unfold looksB at hl
      unfold shapedV at h
      split at hl
      · rename_i ho
        rcases ho with ho | ho | ho
        · exact .inl ho
        · simp [ho] at h
        · simp [ho] at h
      · split at hl
        · rename_i ho
          rcases ho with ho | ho
          · exact .inr ho
          · simp [ho] at h
        · cases hl
    unfold shapedV at h ⊢
    rcases ho with ho | ho
    · simp only [ho] at h ⊢
      simp at h ⊢
      exact ⟨h.1, ht⟩
    · simp only [ho] at h ⊢
      simp at h ⊢
      exact ⟨⟨h.1.1, ht⟩, h.2⟩
  · exact h
def backM (m : Mv) : Mv := ⟨m.what, m.to_, m.fr⟩
theorem looks_back (m : Mv) (x : Nd) : looksB (backM m) x = looksB m x := rfl
theorem toList_ext {x y : ByteArray} (h : x.toList = y.toList) : x = y := bytes_ext (by rw [ByteArray.toList_eq, ByteArray.toList_eq] at h; exact h)
theorem ren_back {m : Mv} {x : Nd} (h : looksB m x = true → x.s.toList ≠ m.to_.toList) : ren (backM m) (ren m x) = x := by
  by_cases hc : looksB m x = true ∧ x.s.toList = m.fr.toList
  · have e1 : ren m x = ⟨x.op, x.n, m.to_, x.t⟩ := by unfold ren; rw [if_pos hc]
    have hl : looksB (backM m) ⟨x.op, x.n, m.to_, x.t⟩ = true := by rw [looks_back, ← e1, looks_ren]; exact hc.1
    rw [e1]
    unfold ren
    rw [if_pos ⟨hl, rfl⟩]
    show (⟨x.op, x.n, m.fr, x.t⟩ : Nd) = x
    rw [← toList_ext hc.2]
  · have e1 : ren m x = x := by unfold ren; rw [if_neg hc]
    rw [e1]
    unfold ren
    rw [if_neg]
    rintro ⟨h1, h2⟩
    exact h h1 h2
theorem back_ok {m : Mv} (h : mvErr m = 0) : mvErr (backM m) = 0 := by
  obtain ⟨h1, h2, h3⟩ := mv_ok h
  unfold mvErr backM
  simp only
  rw [if_neg (by omega), if_neg (by simp [h3]), h2]
theorem fresh_back {m : Mv} {x : Nd} (h : looksB m x = true → x.s.toList ≠ m.to_.toList) : looksB (backM m) (ren m x) = true → (ren m x).s.toList ≠ (backM m).to_.toList := by
  intro hl
  rw [looks_back, looks_ren] at hl
  show (ren m x).s.toList ≠ m.fr.toList
  rw [ren_s]
  split
  · rename_i hc
    intro e
    exact h hl (hc.2.trans e.symm)
  · rename_i hc
    exact fun e => hc ⟨hl, e⟩
theorem allSome_cases {α β : Type} (f : α → Option β) : ∀ (ps : List α), allSome (ps.map f) = none ∨ ∃ qs, allSome (ps.map f) = some qs ∧ qs.length = ps.length ∧ ∀ q ∈ qs, ∃ p ∈ ps, f p = some q
  | [] => .inr ⟨[], rfl, rfl, by simp⟩
  | p :: ps => by
    rw [List.map_cons]
    cases hp : f p with
    | none => exact .inl rfl
    | some y =>
      rw [allSome]
      rcases allSome_cases f ps with h | ⟨qs, h, hl, hq⟩
      · rw [h]; exact .inl rfl
      · rw [h]
        refine .inr ⟨y :: qs, rfl, by simp [hl], ?_⟩
        intro q hq'
        rcases List.mem_cons.1 hq' with rfl | hq'
        · exact ⟨p, by simp, hp⟩
        · obtain ⟨p', h1, h2⟩ := hq q hq'
          exact ⟨p', by simp [h1], h2⟩
theorem allSome_len {α : Type} (f : List α → Option (List Nd)) : ∀ (ps : List (List α)) (qs : List (List Nd)), allSome (ps.map f) = some qs → (∀ p ∈ ps, ∀ q, f p = some q → q.length ≤ p.length) → qs.flatten.length ≤ ps.flatten.length
  | [], qs, h, _ => by injection h with h; subst h; simp
  | p :: ps, qs, h, hl => by
    rw [List.map_cons] at h
    cases hp : f p with
    | none => rw [hp] at h; cases h
    | some y =>
      rw [hp, allSome] at h
      cases hr : allSome (ps.map f) with
      | none => rw [hr] at h; cases h
      | some r =>
        rw [hr] at h
        injection h with h
        subst h
        have h1 := allSome_len f ps r hr (fun p hp => hl p (by simp [hp]))
        have h2 := hl p (by simp) y hp
        simp only [List.flatten_cons, List.length_append]; omega
theorem mem_len {ps : List (List Nd)} {p : List Nd} (h : p ∈ ps) : p.length ≤ ps.flatten.length := by
  obtain ⟨l1, l2, rfl⟩ := List.append_of_mem h
  simp; omega
theorem valsErr_zero : ∀ {qs : List (List Nd)}, (∀ q ∈ qs, Vx q ∧ q.length ≤ 200) → valsErr qs = 0
  | [], _ => rfl
  | q :: qs, h => by
    rw [valsErr, (val_iff q).2 ⟨(h q (by simp)).2, (h q (by simp)).1⟩, if_neg (by simp), valsErr_zero fun q hq => h q (by simp [hq])]
theorem mem_setParts {qs : List (List Nd)} {p : List Nd} (h : p ∈ setParts qs) : p ∈ qs := (List.mergeSort_perm _ _).mem_iff.1 ((dedupP_sub _).subset h)
theorem sub_flat {l1 l2 : List (List Nd)} (h : l1.Sublist l2) : l1.flatten.length ≤ l2.flatten.length := by
  induction h with
  | slnil => exact Nat.le_refl _
  | cons a h ih => rw [List.flatten_cons, List.length_append]; omega
  | cons_cons a h ih => rw [List.flatten_cons, List.flatten_cons, List.length_append, List.length_append]; omega
theorem setParts_len (qs : List (List Nd)) : (setParts qs).flatten.length ≤ qs.flatten.length := by
  have h1 : (setParts qs).flatten.length ≤ (qs.mergeSort ndsLe).flatten.length := sub_flat (dedupP_sub _)
  rw [(List.mergeSort_perm qs ndsLe).flatten.length_eq] at h1
  exact h1
theorem setOf_ok {qs : List (List Nd)} (hv : ∀ q ∈ qs, Vx q) (hl : qs.flatten.length + 1 ≤ 200) : setOfP qs = (setNodes qs, 0) ∧ Vx (setNodes qs) ∧ (setNodes qs).length ≤ qs.flatten.length + 1 := by
  have h1 := setParts_len qs
  have h2 : (setNodes qs).length ≤ qs.flatten.length + 1 := by unfold setNodes; rw [List.length_cons]; omega
  refine ⟨?_, ?_, h2⟩
  · unfold setOfP
    rw [valsErr_zero (fun q hq => ⟨hv q hq, by have := mem_len hq; omega⟩), if_neg (by simp), if_neg (by omega)]
  · exact .set _ _ (by simp [shapedV, ByteArray.toList_eq]) rfl rfl (fun p hp => hv p (mem_setParts hp)) (chain_of (setParts_pw qs) (by simp))
theorem fld_step (m : Mv) (vals : Bool) (k : Nat) {f : Nd} {v : List Nd} (hv : Ex (.one false) v) (h7 : f.op = 7) : movGo m vals (k + 1) (f :: v) = (movGo m vals k v).map fun w => ren m f :: w := by
  have h := movGo_any m vals k f (ps := [v]) (by intro p hp; simp at hp; subst hp; exact ⟨_, hv⟩)
  simp only [List.flatten_cons, List.flatten_nil, List.append_nil, List.map_cons, List.map_nil] at h
  rw [h]
  cases movGo m vals k v with
  | none => rfl
  | some w => simp [allSome, h7]
theorem leaf_step (m : Mv) (vals : Bool) (k : Nat) {n : Nd} (h5 : ¬ n.op = 5) (h6 : ¬ n.op = 6) : movGo m vals (k + 1) [n] = some [ren m n] := by
  have h := movGo_any m vals k n (ps := []) (by simp)
  simp only [List.flatten_nil, List.map_nil, allSome, h5, h6, false_and, if_false] at h
  exact h
theorem nodup_rise {qs : List (List Nd)} (h : ∀ q ∈ qs, Ex (.one true) q) (hn : (namesOf qs).Nodup) : ExK true ⟨#[]⟩ (sortN qs) := by
  refine exk_of_pw (fun q hq => h q ((sortN_perm qs).mem_iff.1 hq)) (sortN_pw hn) ?_
  intro s hs'
  obtain ⟨q, hq, rfl⟩ := List.mem_map.1 hs'
  obtain ⟨x, xs, rfl, hsx, hx7⟩ := ex_ne (h q ((sortN_perm qs).mem_iff.1 hq))
  rw [show (⟨#[]⟩ : ByteArray).toList = [] from by rw [ByteArray.toList_eq]]
  exact nm_ne (fld_name hsx (by simpa using hx7))
/-- A value moved is none, or a value. -/
theorem vx_mov {m : Mv} (hm : mvErr m = 0) {xs : List Nd} (h : Vx xs) : xs.length ≤ 200 → ∀ k, xs.length ≤ k → movGo m true k xs = none ∨ ∃ ys, movGo m true k xs = some ys ∧ Vx ys ∧ ys.length ≤ xs.length := by
  induction h with
  | leaf n hs h5 h6 h7 =>
    intro hl k hk
    match k, hk with
    | k + 1, hk =>
      refine .inr ⟨_, leaf_step m true k h5 h6, ?_, by simp⟩
      have := ren_op m n
      exact .leaf _ (ren_shapedV hm hs) (by omega) (by omega) (by omega)
  | set n ps hs h5 hn hv hc ih =>
    intro hl k hk
    rw [List.length_cons] at hl hk
    match k, hk with
    | k + 1, hk =>
      rw [movGo_any m true k n fun p hp => ⟨_, vx_ex (hv p hp)⟩]
      have hp : ∀ p ∈ ps, movGo m true k p = none ∨ ∃ ys, movGo m true k p = some ys ∧ Vx ys ∧ ys.length ≤ p.length := fun p hp => ih p hp (by have := mem_len hp; omega) k (by have := mem_len hp; omega)
      have hp' : ∀ p ∈ ps, ∀ q, movGo m true k p = some q → Vx q ∧ q.length ≤ p.length := fun p hpm q hq => by
        rcases hp p hpm with h | ⟨ys, h, h'⟩
        · rw [h] at hq; cases hq
        · rw [h] at hq; injection hq with hq; subst hq; exact h'
      rcases allSome_cases (movGo m true k) ps with h | ⟨qs, h, hlq, hq⟩
      · rw [h]; exact .inl rfl
      · have h6 : ¬ n.op = 6 := by omega
        have hle := allSome_len _ _ _ h (fun p hpm q hq => (hp' p hpm q hq).2)
        have hvq : ∀ q ∈ qs, Vx q := fun q hqm => by obtain ⟨p, h1, h2⟩ := hq q hqm; exact (hp' p h1 q h2).1
        obtain ⟨a1, a2, a3⟩ := setOf_ok hvq (by omega)
        rw [h]
        simp only [h6, h5, if_false, if_true, true_and]
        refine .inr ⟨_, rfl, ?_, ?_⟩
        · rw [a1]; exact a2
        · rw [a1, List.length_cons]; show (setNodes qs).length ≤ _; omega
  | rcd n ps hs h6 hn h1 h2 h3 hc ih =>
    intro hl k hk
    rw [List.length_cons] at hl hk
    match k, hk with
    | k + 1, hk =>
      have hex : ∀ p ∈ ps, Ex (.one true) p := fun p hp => by
        obtain ⟨f, v, rfl⟩ := h1 p hp
        obtain ⟨a1, a2⟩ := h2 f v hp
        exact fx_ex a1 a2 (vx_ex (h3 f v hp))
      rw [movGo_any m true k n fun p hp => ⟨_, hex p hp⟩]
      have hp' : ∀ p ∈ ps, ∀ q, movGo m true k p = some q → Fx q ∧ q.length ≤ p.length := fun p hpm q hq => by
        have hle := mem_len hpm
        obtain ⟨f, v, rfl⟩ := h1 p hpm
        obtain ⟨a1, a2⟩ := h2 f v hpm
        rw [List.length_cons] at hle
        match k, hk with
        | 0, hk => omega
        | k + 1, hk =>
          rw [fld_step m true k (vx_ex (h3 f v hpm)) a1] at hq
          rcases ih f v hpm (by omega) k (by omega) with h | ⟨ys, h, h', h''⟩
          · rw [h] at hq; cases hq
          · rw [h] at hq
            injection hq with hq
            subst hq
            exact ⟨⟨ren m f, ys, rfl, by rw [(ren_op m f).1]; exact a1, ren_shapedV hm a2, h'⟩, by simpa using h''⟩
      rcases allSome_cases (movGo m true k) ps with h | ⟨qs, h, hlq, hq⟩
      · rw [h]; exact .inl rfl
      · have hle := allSome_len _ _ _ h (fun p hpm q hq => (hp' p hpm q hq).2)
        have hvq : ∀ q ∈ qs, Fx q := fun q hqm => by obtain ⟨p, h1, h2⟩ := hq q hqm; exact (hp' p h1 q h2).1
        have heq : ∀ q ∈ qs, Ex (.one true) q := fun q hqm => by obtain ⟨f, v, rfl, a, b, c⟩ := hvq q hqm; exact fx_ex a b (vx_ex c)
        rw [h]
        simp only [h6, if_true]
        by_cases hnd : (namesOf qs).Nodup
        · rw [if_pos hnd]
          refine .inr ⟨_, rfl, ?_, ?_⟩
          · have e := ren_op m n
            exact .rcd' (ren_shapedV hm hs) (by omega) (by rw [e.2.1, hn, (sortN_perm qs).length_eq, hlq]) (fun p hp => hvq p ((sortN_perm qs).mem_iff.1 hp)) (exk_rise (nodup_rise heq hnd))
          · rw [List.length_cons, List.length_cons, (sortN_perm qs).flatten.length_eq]; omega
        · rw [if_neg hnd]; exact .inl rfl
/-- An expression moved is none, or an expression. -/
theorem ex_mov {m : Mv} (hm : mvErr m = 0) : ∀ (N : Nat) (xs : List Nd) (b : Bool), xs.length ≤ N → Ex (.one b) xs → ∀ k, xs.length ≤ k → movGo m false k xs = none ∨ ∃ ys, movGo m false k xs = some ys ∧ Ex (.one b) ys ∧ ys.length ≤ xs.length
  | 0, xs, b, hN, hx => by obtain ⟨x, r, rfl, _, _⟩ := ex_ne hx; simp at hN
  | N + 1, xs, b, hN, hx => by
    intro k hk
    cases hx with
    | one x body _ hs h7 hbd =>
      obtain ⟨ps, hc, rfl, hK⟩ := ex_pieces hbd
      rw [List.length_cons] at hN hk
      match k, hk with
      | k + 1, hk =>
        have hall := exk_all hK
        rw [movGo_step m false k x hK]
        have hp' : ∀ p ∈ ps, ∀ q, movGo m false k p = some q → Ex (.one (x.op == 6)) q ∧ q.length ≤ p.length := fun p hpm q hq => by
          have hle := mem_len hpm
          rcases ex_mov hm N p _ (by omega) (hall p hpm) k (by omega) with h | ⟨ys, h, h'⟩
          · rw [h] at hq; cases hq
          · rw [h] at hq; injection hq with hq; subst hq; exact h'
        have e := ren_op m x
        rcases allSome_cases (movGo m false k) ps with h | ⟨qs, h, hlq, hq⟩
        · rw [h]; exact .inl rfl
        · have hle := allSome_len _ _ _ h (fun p hpm q hq => (hp' p hpm q hq).2)
          have hvq : ∀ q ∈ qs, Ex (.one (x.op == 6)) q := fun q hqm => by obtain ⟨p, h1, h2⟩ := hq q hqm; exact (hp' p h1 q h2).1
          rw [h]
          simp only [Bool.false_eq_true, and_false, if_false]
          by_cases h6 : x.op = 6
          · rw [if_pos h6]
            rw [show (x.op == 6) = true from by simp [h6]] at hvq
            by_cases hnd : (namesOf qs).Nodup
            · rw [if_pos hnd]
              refine .inr ⟨_, rfl, .one _ _ b (ren_shaped hm hs) (by rw [e.1]; exact h7) ?_, ?_⟩
              · have := exk_more _ _ _ (nodup_rise hvq hnd)
                rw [ren_parts, e.1, ← hc, ← hlq, ← (sortN_perm qs).length_eq, h6]; exact this
              · rw [List.length_cons, List.length_cons, (sortN_perm qs).flatten.length_eq]; omega
            · rw [if_neg hnd]; exact .inl rfl
          · rw [if_neg h6]
            rw [show (x.op == 6) = false from by simp [h6]] at hvq
            refine .inr ⟨_, rfl, .one _ _ b (ren_shaped hm hs) (by rw [e.1]; exact h7) ?_, ?_⟩
            · have := exk_more _ _ ⟨#[]⟩ (exk_false hvq)
              rw [ren_parts, e.1, ← hc, ← hlq, show (x.op == 6) = false from by simp [h6]]; exact this
            · rw [List.length_cons, List.length_cons]; omega
theorem map_flat_len {F : List Nd → List Nd} : ∀ (ps : List (List Nd)), (∀ p ∈ ps, (F p).length = p.length) → (ps.map F).flatten.length = ps.flatten.length
  | [], _ => rfl
  | p :: ps, h => by rw [List.map_cons, List.flatten_cons, List.flatten_cons, List.length_append, List.length_append, h p (by simp), map_flat_len ps fun q hq => h q (by simp [hq])]
theorem map_id {α : Type} {f : α → α} : ∀ (l : List α), (∀ x ∈ l, f x = x) → l.map f = l
  | [], _ => rfl
  | x :: l, h => by rw [List.map_cons, h x (by simp), map_id l fun y hy => h y (by simp [hy])]
theorem rise_names {ps : List (List Nd)} {l : ByteArray} (h : ExK true l ps) : (namesOf ps).Pairwise (· < ·) := (exk_pw h).1
theorem sortN_of {ps qs : List (List Nd)} {l : ByteArray} (h : ExK true l ps) (hp : qs.Perm ps) : (namesOf qs).Nodup ∧ sortN qs = ps := by
  have h1 := rise_names h
  have h2 : (namesOf qs).Nodup := (hp.map _).nodup_iff.2 (pw_nodup h1)
  exact ⟨h2, rise_eq (sortN_pw h2) h1 ((sortN_perm qs).trans hp)⟩
/-- There and back: a value. -/
theorem vx_back {m : Mv} (hm : mvErr m = 0) {xs : List Nd} (h : Vx xs) : xs.length ≤ 200 → (∀ x ∈ xs, looksB m x = true → x.s.toList ≠ m.to_.toList) → ∀ k, xs.length ≤ k →
    ∃ ys, movGo m true k xs = some ys ∧ Vx ys ∧ ys.length = xs.length ∧ ys.head? = xs.head?.map (ren m) ∧ movGo (backM m) true k ys = some xs := by
  induction h with
  | leaf n hs h5 h6 h7 =>
    intro hl hf k hk
    match k, hk with
    | k + 1, hk =>
      have := ren_op m n
      refine ⟨_, leaf_step m true k h5 h6, .leaf _ (ren_shapedV hm hs) (by omega) (by omega) (by omega), by simp, rfl, ?_⟩
      rw [leaf_step (backM m) true k (by omega) (by omega), ren_back (hf n (by simp))]
  | set n ps hs h5 hn hv hc ih =>
    intro hl hf k hk
    rw [List.length_cons] at hl hk
    match k, hk with
    | k + 1, hk =>
      have hlen : ∀ p ∈ ps, p.length ≤ ps.flatten.length := fun p hp => mem_len hp
      have gm : ∀ p ∈ ps, ∃ ys, movGo m true k p = some ys ∧ Vx ys ∧ ys.length = p.length ∧ ys.head? = p.head?.map (ren m) ∧ movGo (backM m) true k ys = some p := fun p hp =>
        ih p hp (by have := hlen p hp; omega) (fun x hx => hf x (by simp; exact .inr ⟨p, hp, hx⟩)) k (by have := hlen p hp; omega)
      have em := allSome_of (movGo m true k) ps (fun p hp => by obtain ⟨y, h, _⟩ := gm p hp; exact ⟨y, h⟩)
      generalize hF : (fun p => (movGo m true k p).getD default) = F at em
      have fm : ∀ p ∈ ps, Vx (F p) ∧ (F p).length = p.length ∧ movGo (backM m) true k (F p) = some p := fun p hp => by
        obtain ⟨y, h, h1, h2, _, h3⟩ := gm p hp
        have : F p = y := by rw [← hF]; simp [h]
        rw [this]; exact ⟨h1, h2, h3⟩
      have h6 : ¬ n.op = 6 := by omega
      have hpw := (chain_pw hc).1
      have hnd : (ps.map F).Nodup := by
        rw [List.Nodup, List.pairwise_map]
        refine hpw.imp_of_mem ?_
        intro a b ha hb hab e
        have e1 := (fm a ha).2.2
        rw [e, (fm b hb).2.2] at e1
        injection e1 with e1
        subst e1
        exact ltN_irrefl _ hab
      have hvq : ∀ q ∈ ps.map F, Vx q := fun q hq => by obtain ⟨p, hp, rfl⟩ := List.mem_map.1 hq; exact (fm p hp).1
      have hfl := map_flat_len ps (F := F) fun p hp => (fm p hp).2.1
      obtain ⟨a1, a2, a3⟩ := setOf_ok hvq (by omega)
      have hperm := setParts_perm hnd
      have hren : ren m n = n := by unfold ren looksB; simp [h5]
      have hn5 : n = ⟨5, ps.length, ⟨#[]⟩, ⟨#[]⟩⟩ := by
        simp [shapedV, h5] at hs
        have e1 : n.s = ⟨#[]⟩ := toList_ext (by rw [hs.1.2, ByteArray.toList_eq])
        have e2 : n.t = ⟨#[]⟩ := toList_ext (by rw [hs.2, ByteArray.toList_eq])
        cases n; simp at h5 hn e1 e2; simp [h5, hn, e1, e2]
      refine ⟨setNodes (ps.map F), ?_, a2, ?_, ?_, ?_⟩
      · rw [movGo_any m true k n fun p hp => ⟨_, vx_ex (hv p hp)⟩, em]
        simp only [h5, show ¬ (5 : Int) = 6 from by omega, if_false, if_true, true_and, a1]
      · unfold setNodes
        rw [List.length_cons, List.length_cons, hperm.flatten.length_eq, hfl]
      · show some _ = some _
        rw [hren, hn5, hperm.length_eq, List.length_map]
      · unfold setNodes
        rw [movGo_any (backM m) true k _ fun q hq => ⟨_, vx_ex (hvq q (mem_setParts hq))⟩]
        have gb : ∀ q ∈ setParts (ps.map F), ∃ p ∈ ps, q = F p := fun q hq => by
          obtain ⟨p, hp, rfl⟩ := List.mem_map.1 (mem_setParts hq); exact ⟨p, hp, rfl⟩
        rw [allSome_of _ _ (fun q hq => by obtain ⟨p, hp, rfl⟩ := gb q hq; exact ⟨p, (fm p hp).2.2⟩)]
        generalize hG : (fun q => (movGo (backM m) true k q).getD default) = G
        have hgf : (ps.map F).map G = ps := by
          rw [List.map_map]
          refine map_id ps fun p hp => ?_
          show G (F p) = p
          rw [← hG]
          simp [(fm p hp).2.2]
        have hpG : ((setParts (ps.map F)).map G).Perm ps := (hperm.map G).trans (List.Perm.of_eq hgf)
        obtain ⟨b1, _, _⟩ := setOf_ok (qs := (setParts (ps.map F)).map G) (fun q hq => hv q (hpG.mem_iff.1 hq)) (by rw [hpG.flatten.length_eq]; omega)
        simp only [show ¬ (5 : Int) = 6 from by omega, if_false, if_true, true_and, b1]
        unfold setNodes
        rw [setParts_of hpG hpw, ← hn5]
  | rcd n ps hs h6 hn h1 h2 h3 hc ih =>
    intro hl hf k hk
    rw [List.length_cons] at hl hk
    match k, hk with
    | k + 1, hk =>
      have hex : ∀ p ∈ ps, Ex (.one true) p := fun p hp => by
        obtain ⟨f, v, rfl⟩ := h1 p hp
        obtain ⟨a1, a2⟩ := h2 f v hp
        exact fx_ex a1 a2 (vx_ex (h3 f v hp))
      have hK := rise_exk hex hc
      have gm : ∀ p ∈ ps, ∃ ys, movGo m true k p = some ys ∧ Fx ys ∧ ys.length = p.length ∧ ys.head? = p.head?.map (ren m) ∧ movGo (backM m) true k ys = some p := fun p hpm => by
        have hle := mem_len hpm
        have hfp : ∀ x ∈ p, looksB m x = true → x.s.toList ≠ m.to_.toList := fun x hx => hf x (by simp; exact .inr ⟨p, hpm, hx⟩)
        obtain ⟨f, v, rfl⟩ := h1 p hpm
        obtain ⟨a1, a2⟩ := h2 f v hpm
        rw [List.length_cons] at hle
        match k, hk with
        | 0, hk => omega
        | k + 1, hk =>
          obtain ⟨ys, c1, c2, c3, _, c4⟩ := ih f v hpm (by omega) (fun x hx => hfp x (by simp [hx])) k (by omega)
          refine ⟨ren m f :: ys, by rw [fld_step m true k (vx_ex (h3 f v hpm)) a1, c1]; rfl, ⟨_, ys, rfl, by rw [(ren_op m f).1]; exact a1, ren_shapedV hm a2, c2⟩, by simp [c3], rfl, ?_⟩
          rw [fld_step (backM m) true k (vx_ex c2) (by rw [(ren_op m f).1]; exact a1), c4, Option.map_some, ren_back (hfp f (by simp))]
      have em := allSome_of (movGo m true k) ps (fun p hp => by obtain ⟨y, h, _⟩ := gm p hp; exact ⟨y, h⟩)
      generalize hF : (fun p => (movGo m true k p).getD default) = F at em
      have fm : ∀ p ∈ ps, Fx (F p) ∧ (F p).length = p.length ∧ (F p).head? = p.head?.map (ren m) ∧ movGo (backM m) true k (F p) = some p := fun p hp => by
        obtain ⟨y, h, h1, h2, h4, h3⟩ := gm p hp
        have : F p = y := by rw [← hF]; simp [h]
        rw [this]; exact ⟨h1, h2, h4, h3⟩
      have hvq : ∀ q ∈ ps.map F, Fx q := fun q hq => by obtain ⟨p, hp, rfl⟩ := List.mem_map.1 hq; exact (fm p hp).1
      have heq : ∀ q ∈ ps.map F, Ex (.one true) q := fun q hqm => by obtain ⟨f, v, rfl, a, b, c⟩ := hvq q hqm; exact fx_ex a b (vx_ex c)
      have hfl := map_flat_len ps (F := F) fun p hp => (fm p hp).2.1
      have hpf : ∀ p ∈ ps, ∃ x xs, p = x :: xs ∧ x.op = 7 := fun p hp => by
        obtain ⟨f, v, rfl⟩ := h1 p hp
        exact ⟨f, v, rfl, (h2 f v hp).1⟩
      have hhd : (ps.map F).map List.head? = ps.map fun p => p.head?.map (ren m) := by
        rw [List.map_map]
        exact List.map_congr_left fun p hp => (fm p hp).2.2.1
      have hnd : (namesOf (ps.map F)).Nodup := ren_nodup hhd hpf (fun p hp x hx => hf x (by simp; exact .inr ⟨p, hp, hx⟩)) (pw_nodup (rise_names hK))
      have e := ren_op m n
      have hren : ren m n = n := by unfold ren looksB; simp [h6]
      refine ⟨ren m n :: (sortN (ps.map F)).flatten, ?_, ?_, ?_, rfl, ?_⟩
      · rw [movGo_any m true k n fun p hp => ⟨_, hex p hp⟩, em]
        simp only [h6, if_true]
        rw [if_pos hnd]
      · exact .rcd' (ren_shapedV hm hs) (by omega) (by rw [e.2.1, hn, (sortN_perm _).length_eq, List.length_map]) (fun p hp => hvq p ((sortN_perm _).mem_iff.1 hp)) (exk_rise (nodup_rise heq hnd))
      · rw [List.length_cons, List.length_cons, (sortN_perm _).flatten.length_eq, hfl]
      · rw [movGo_any (backM m) true k _ fun q hq => ⟨_, heq q ((sortN_perm _).mem_iff.1 hq)⟩]
        have gb : ∀ q ∈ sortN (ps.map F), ∃ p ∈ ps, q = F p := fun q hq => by
          obtain ⟨p, hp, rfl⟩ := List.mem_map.1 ((sortN_perm _).mem_iff.1 hq); exact ⟨p, hp, rfl⟩
        rw [allSome_of _ _ (fun q hq => by obtain ⟨p, hp, rfl⟩ := gb q hq; exact ⟨p, (fm p hp).2.2.2⟩)]
        generalize hG : (fun q => (movGo (backM m) true k q).getD default) = G
        have hgf : (ps.map F).map G = ps := by
          rw [List.map_map]
          refine map_id ps fun p hp => ?_
          show G (F p) = p
          rw [← hG]
          simp [(fm p hp).2.2.2]
        have hpG : ((sortN (ps.map F)).map G).Perm ps := ((sortN_perm _).map G).trans (List.Perm.of_eq hgf)
        obtain ⟨b1, b2⟩ := sortN_of hK hpG
        simp only [e.1, h6, if_true]
        rw [if_pos b1, b2, hren]
        have : ren (backM m) n = n := by unfold ren looksB; simp [h6]
        rw [this]
/-- There and back: an expression. -/
theorem ex_back {m : Mv} (hm : mvErr m = 0) : ∀ (N : Nat) (xs : List Nd) (b : Bool), xs.length ≤ N → Ex (.one b) xs → (∀ x ∈ xs, looksB m x = true → x.s.toList ≠ m.to_.toList) →
    ∀ k, xs.length ≤ k → ∃ ys, movGo m false k xs = some ys ∧ movGo (backM m) false k ys = some xs
  | 0, xs, b, hN, hx, _ => by obtain ⟨x, r, rfl, _, _⟩ := ex_ne hx; simp at hN
  | N + 1, xs, b, hN, hx, hf => by
    intro k hk
    cases hx with
    | one x body _ hs h7 hbd =>
      obtain ⟨ps, hc, rfl, hK⟩ := ex_pieces hbd
      rw [List.length_cons] at hN hk
      match k, hk with
      | k + 1, hk =>
        have hall := exk_all hK
        have hfp : ∀ p ∈ ps, ∀ y ∈ p, looksB m y = true → y.s.toList ≠ m.to_.toList := fun p hp y hy => hf y (by simp; exact .inr ⟨p, hp, hy⟩)
        have gm : ∀ p ∈ ps, ∃ y, movGo m false k p = some y ∧ Ex (.one (x.op == 6)) y ∧ y.head? = p.head?.map (ren m) ∧ movGo (backM m) false k y = some p := fun p hp => by
          have hle := mem_len hp
          obtain ⟨y, a1, a2, a3, a4⟩ := mov_ex hm (hall p hp) (hfp p hp) k (by omega)
          obtain ⟨y', b1, b2⟩ := ex_back hm N p _ (by omega) (hall p hp) (hfp p hp) k (by omega)
          rw [a1] at b1
          injection b1 with b1
          subst b1
          exact ⟨y, a1, a2, a3, b2⟩
        have em := allSome_of (movGo m false k) ps (fun p hp => by obtain ⟨y, h, _⟩ := gm p hp; exact ⟨y, h⟩)
        generalize hF : (fun p => (movGo m false k p).getD default) = F at em
        have fm : ∀ p ∈ ps, Ex (.one (x.op == 6)) (F p) ∧ (F p).head? = p.head?.map (ren m) ∧ movGo (backM m) false k (F p) = some p := fun p hp => by
          obtain ⟨y, h, h'⟩ := gm p hp
          have : F p = y := by rw [← hF]; simp [h]
          rw [this]; exact h'
        rw [movGo_step m false k x hK, em]
        have e := ren_op m x
        have hrb : ren (backM m) (ren m x) = x := ren_back (hf x (by simp))
        generalize hG : (fun q => (movGo (backM m) false k q).getD default) = G
        have hgf : (ps.map F).map G = ps := by
          rw [List.map_map]
          refine map_id ps fun p hp => ?_
          show G (F p) = p
          rw [← hG]
          simp [(fm p hp).2.2]
        by_cases h6 : x.op = 6
        · simp only [h6, if_true]
          rw [h6] at hK
          have hK6 : ExK true ⟨#[]⟩ ps := hK
          have hpf : ∀ p ∈ ps, ∃ x xs, p = x :: xs ∧ x.op = 7 := fun p hp => by
            obtain ⟨x, xs, e, _, h⟩ := ex_ne (exk_all hK6 p hp)
            exact ⟨x, xs, e, by simpa using h⟩
          have hhd : (ps.map F).map List.head? = ps.map fun p => p.head?.map (ren m) := by
            rw [List.map_map]
            exact List.map_congr_left fun p hp => (fm p hp).2.1
          have hnd : (namesOf (ps.map F)).Nodup := ren_nodup hhd hpf hfp (pw_nodup (rise_names hK6))
          rw [if_pos hnd]
          refine ⟨_, rfl, ?_⟩
          have gb : ∀ q ∈ sortN (ps.map F), ∃ p ∈ ps, q = F p := fun q hq => by
            obtain ⟨p, hp, rfl⟩ := List.mem_map.1 ((sortN_perm _).mem_iff.1 hq); exact ⟨p, hp, rfl⟩
          rw [movGo_any (backM m) false k _ (fun q hq => by obtain ⟨p, hp, rfl⟩ := gb q hq; exact ⟨_, (fm p hp).1⟩),
            allSome_of _ _ (fun q hq => by obtain ⟨p, hp, rfl⟩ := gb q hq; exact ⟨p, (fm p hp).2.2⟩), hG]
          have hpG : ((sortN (ps.map F)).map G).Perm ps := ((sortN_perm _).map G).trans (List.Perm.of_eq hgf)
          obtain ⟨b1, b2⟩ := sortN_of hK6 hpG
          simp only [e.1, h6, if_true]
          rw [if_pos b1, b2, hrb]
        · simp only [h6, if_false, Bool.false_eq_true, and_false]
          refine ⟨_, rfl, ?_⟩
          have gb : ∀ q ∈ ps.map F, ∃ p ∈ ps, q = F p := fun q hq => by
            obtain ⟨p, hp, rfl⟩ := List.mem_map.1 hq; exact ⟨p, hp, rfl⟩
          rw [movGo_any (backM m) false k _ (fun q hq => by obtain ⟨p, hp, rfl⟩ := gb q hq; exact ⟨_, (fm p hp).1⟩),
            allSome_of _ _ (fun q hq => by obtain ⟨p, hp, rfl⟩ := gb q hq; exact ⟨p, (fm p hp).2.2⟩), hG, hgf]
          simp only [e.1, h6, if_false, Bool.false_eq_true, and_false, hrb]
def movV (m : Mv) (v : List Nd) : Option (List Nd) := movGo m true v.length v
/-- MoveBack, of an expression. -/
theorem back_expr {m : Mv} {e : List Nd} (hm : mvErr m = 0) (he : treeErr e = 0) (hf : freshB m e = true) : ∃ x, movE m e = some x ∧ treeErr x = 0 ∧ movE (backM m) x = some e := by
  have h := (tree_iff e).1 he
  have fm := fresh_iff.1 hf
  obtain ⟨x, a1, a2, _, a4⟩ := mov_ex hm h.2 fm e.length (Nat.le_refl _)
  have lx : x.length = e.length := by rw [a4.length_eq, List.length_map]
  obtain ⟨y, b1, b2⟩ := ex_back hm e.length e false (Nat.le_refl _) h.2 fm e.length (Nat.le_refl _)
  rw [a1] at b1
  injection b1 with b1
  subst b1
  refine ⟨x, a1, (tree_iff x).2 ⟨by omega, a2⟩, ?_⟩
  unfold movE; rw [lx]; exact b2
/-- MoveBack, of a value. -/
theorem back_value {m : Mv} {v : List Nd} (hm : mvErr m = 0) (hv : valErr v = 0) (hf : freshB m v = true) : ∃ x, movV m v = some x ∧ valErr x = 0 ∧ movV (backM m) x = some v := by
  have h := (val_iff v).1 hv
  obtain ⟨x, a1, a2, a3, _, a4⟩ := vx_back hm h.2 h.1 (fresh_iff.1 hf) v.length (Nat.le_refl _)
  refine ⟨x, a1, (val_iff x).2 ⟨by omega, a2⟩, ?_⟩
  unfold movV; rw [a3]; exact a4
end Go.Proofs.Ytnhcjpmamgdeoaa
