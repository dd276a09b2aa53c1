/-
  PLAIN LAW for MoveApart.
-/
import Derived.Test.YtnhcjpmamgdeoaaMvP
namespace Go.Proofs.Ytnhcjpmamgdeoaa
open Go.RowKit

theorem kids_any : ∀ (ps : List (List Nd)), (∀ p ∈ ps, ∃ b, Ex (.one b) p) → ∀ k, ps.flatten.length ≤ k → kidsGo k ps.flatten = ps
  | [], _, k, _ => by cases k <;> rfl
  | p :: ps, h, k, hk => by
    obtain ⟨b, hb⟩ := h p (by simp)
    obtain ⟨x, xs, rfl, _, _⟩ := ex_ne hb
    rw [List.flatten_cons, List.length_append, List.length_cons] at hk
    match k, hk with
    | 0, hk => omega
    | k + 1, hk =>
      have hs := skP_one hb ps.flatten
      rw [List.flatten_cons]
      rw [List.cons_append] at hs ⊢
      rw [kidsGo, hs]
      simp only
      rw [← List.cons_append, List.take_left, List.drop_left, kids_any ps (fun q hq => h q (by simp [hq])) k (by omega)]
theorem movGo_any (m : Mv) (vals : Bool) (k : Nat) (x : Nd) {ps : List (List Nd)} (h : ∀ p ∈ ps, ∃ b, Ex (.one b) p) : movGo m vals (k + 1) (x :: ps.flatten) =
    match allSome (ps.map (movGo m vals k)) with
    | none => none
    | some qs => if x.op = 6 then (if (namesOf qs).Nodup then some (ren m x :: (sortN qs).flatten) else none)
      else if x.op = 5 ∧ vals = true then some (setOfP qs).1 else some (ren m x :: qs.flatten) := by
  rw [movGo, kids_any ps h _ (Nat.le_refl _)]
  rfl
theorem allSome_of {α β : Type} [Inhabited β] (f : α → Option β) : ∀ (ps : List α), (∀ p ∈ ps, ∃ y, f p = some y) → allSome (ps.map f) = some (ps.map fun p => (f p).getD default)
  | [], _ => rfl
  | p :: ps, h => by
    obtain ⟨y, hy⟩ := h p (by simp)
    rw [List.map_cons, hy, allSome, allSome_of f ps (fun q hq => h q (by simp [hq])), List.map_cons, hy]; rfl
/-- Two moves that have nothing in common. -/
def ApartM (m n : Mv) : Prop := m.what = n.what → m.fr.toList ≠ n.fr.toList ∧ m.to_.toList ≠ n.to_.toList ∧ m.fr.toList ≠ n.to_.toList ∧ m.to_.toList ≠ n.fr.toList
theorem looks_what {m n : Mv} {x : Nd} (h1 : looksB m x = true) (h2 : looksB n x = true) : m.what = n.what := by
  unfold looksB at h1 h2
  split at h1
  · rename_i h
    rw [if_pos h] at h2
    rw [beq_iff_eq] at h1 h2; rw [h1, h2]
  · rename_i h
    rw [if_neg h] at h2
    split at h1
    · rename_i h'
      rw [if_pos h'] at h2
      rw [beq_iff_eq] at h1 h2; rw [h1, h2]
    · cases h1
theorem ren_comm {m n : Mv} (h : ApartM m n) (x : Nd) : ren n (ren m x) = ren m (ren n x) := by
  by_cases hm : looksB m x = true ∧ x.s.toList = m.fr.toList
  · have e1 : ren m x = ⟨x.op, x.n, m.to_, x.t⟩ := by unfold ren; rw [if_pos hm]
    have hn : ren n x = x := by
      unfold ren
      rw [if_neg]
      rintro ⟨h1, h2⟩
      exact (h (looks_what hm.1 h1)).1 (hm.2.symm.trans h2)
    rw [hn, e1]
    unfold ren
    rw [if_neg]
    rintro ⟨h1, h2⟩
    have h1' : looksB n x = true := h1
    exact (h (looks_what hm.1 h1')).2.2.2 h2
  · have e1 : ren m x = x := by unfold ren; rw [if_neg hm]
    rw [e1]
    by_cases hn : looksB n x = true ∧ x.s.toList = n.fr.toList
    · have e2 : ren n x = ⟨x.op, x.n, n.to_, x.t⟩ := by unfold ren; rw [if_pos hn]
      rw [e2]
      unfold ren
      rw [if_neg]
      rintro ⟨h1, h2⟩
      have h1' : looksB m x = true := h1
      exact (h (looks_what h1' hn.1)).2.2.1 h2.symm
    · have e2 : ren n x = x := by unfold ren; rw [if_neg hn]
      rw [e2, e1]
theorem fresh_mov {m n : Mv} (h : ApartM m n) {xs ys : List Nd} (hp : ys.Perm (xs.map (ren m))) (hf : ∀ x ∈ xs, looksB n x = true → x.s.toList ≠ n.to_.toList) : ∀ y ∈ ys, looksB n y = true → y.s.toList ≠ n.to_.toList := by
  intro y hy hl
  obtain ⟨x, hx, rfl⟩ := List.mem_map.1 (hp.mem_iff.1 hy)
  rw [looks_ren] at hl
  rw [ren_s]
  split
  · rename_i hc
    exact (h (looks_what hc.1 hl)).2.1
  · exact hf x hx hl
/-- Two moves, in either order. -/
theorem apart_go {m n : Mv} (hm : mvErr m = 0) (hn : mvErr n = 0) (ha : ApartM m n) (hb : ApartM n m) : ∀ (N : Nat) (xs : List Nd) (b : Bool), xs.length ≤ N → Ex (.one b) xs →
    (∀ x ∈ xs, looksB m x = true → x.s.toList ≠ m.to_.toList) → (∀ x ∈ xs, looksB n x = true → x.s.toList ≠ n.to_.toList) →
    ∀ k ys zs, xs.length ≤ k → movGo m false k xs = some ys → movGo n false k xs = some zs → movGo n false k ys = movGo m false k zs
  | 0, xs, b, hN, hx, _, _ => by
    obtain ⟨x, r, rfl, _, _⟩ := ex_ne hx
    simp at hN
  | N + 1, xs, b, hN, hx, hfm, hfn => by
    intro k ys zs hk h1 h2
    cases hx with
    | one x body _ hs h7 hbd =>
      obtain ⟨ps, hc, rfl, hK⟩ := ex_pieces hbd
      match k, hk with
      | k + 1, hk =>
        have hk' : ps.flatten.length ≤ k := by simpa using hk
        have hall := exk_all hK
        have hlen : ∀ p ∈ ps, p.length ≤ ps.flatten.length := fun p hp => by
          obtain ⟨l1, l2, rfl⟩ := List.append_of_mem hp
          simp; omega
        have hmf : ∀ p ∈ ps, ∀ y ∈ p, y ∈ x :: ps.flatten := fun p hp y hy => by simp; exact .inr ⟨p, hp, hy⟩
        have gm : ∀ p ∈ ps, ∃ y, movGo m false k p = some y ∧ Ex (.one (x.op == 6)) y ∧ y.Perm (p.map (ren m)) := fun p hp => by
          obtain ⟨y, a1, a2, _, a4⟩ := mov_ex hm (hall p hp) (fun y hy => hfm y (hmf p hp y hy)) k (Nat.le_trans (hlen p hp) hk')
          exact ⟨y, a1, a2, a4⟩
        have gn : ∀ p ∈ ps, ∃ y, movGo n false k p = some y ∧ Ex (.one (x.op == 6)) y ∧ y.Perm (p.map (ren n)) := fun p hp => by
          obtain ⟨y, a1, a2, _, a4⟩ := mov_ex hn (hall p hp) (fun y hy => hfn y (hmf p hp y hy)) k (Nat.le_trans (hlen p hp) hk')
          exact ⟨y, a1, a2, a4⟩
        have em := allSome_of (movGo m false k) ps (fun p hp => by obtain ⟨y, h, _⟩ := gm p hp; exact ⟨y, h⟩)
        have en := allSome_of (movGo n false k) ps (fun p hp => by obtain ⟨y, h, _⟩ := gn p hp; exact ⟨y, h⟩)
        generalize hF : (fun p => (movGo m false k p).getD default) = F at em
        generalize hG : (fun p => (movGo n false k p).getD default) = G at en
        have fm : ∀ p ∈ ps, movGo m false k p = some (F p) ∧ Ex (.one (x.op == 6)) (F p) ∧ (F p).Perm (p.map (ren m)) := fun p hp => by
          obtain ⟨y, h, h'⟩ := gm p hp
          have : F p = y := by rw [← hF]; simp [h]
          rw [this]; exact ⟨h, h'⟩
        have fn : ∀ p ∈ ps, movGo n false k p = some (G p) ∧ Ex (.one (x.op == 6)) (G p) ∧ (G p).Perm (p.map (ren n)) := fun p hp => by
          obtain ⟨y, h, h'⟩ := gn p hp
          have : G p = y := by rw [← hG]; simp [h]
          rw [this]; exact ⟨h, h'⟩
        have ih : ∀ p ∈ ps, movGo n false k (F p) = movGo m false k (G p) := fun p hp =>
          apart_go hm hn ha hb N p _ (by have := hlen p hp; have hN' : ps.flatten.length + 1 ≤ N + 1 := hN; omega) (hall p hp) (fun y hy => hfm y (hmf p hp y hy)) (fun y hy => hfn y (hmf p hp y hy)) k _ _ (Nat.le_trans (hlen p hp) hk') (fm p hp).1 (fn p hp).1
        have gnF : ∀ q ∈ ps.map F, ∃ y, movGo n false k q = some y := by
          intro q hq
          obtain ⟨p, hp, rfl⟩ := List.mem_map.1 hq
          have hl : (F p).length ≤ k := by rw [(fm p hp).2.2.length_eq, List.length_map]; exact Nat.le_trans (hlen p hp) hk'
          obtain ⟨y, a1, _⟩ := mov_ex hn (fm p hp).2.1 (fresh_mov ha (fm p hp).2.2 (fun y hy => hfn y (hmf p hp y hy))) k hl
          exact ⟨y, a1⟩
        have gmG : ∀ q ∈ ps.map G, ∃ y, movGo m false k q = some y := by
          intro q hq
          obtain ⟨p, hp, rfl⟩ := List.mem_map.1 hq
          have hl : (G p).length ≤ k := by rw [(fn p hp).2.2.length_eq, List.length_map]; exact Nat.le_trans (hlen p hp) hk'
          obtain ⟨y, a1, _⟩ := mov_ex hm (fn p hp).2.1 (fresh_mov hb (fn p hp).2.2 (fun y hy => hfm y (hmf p hp y hy))) k hl
          exact ⟨y, a1⟩
        have hcomp : (ps.map F).map (fun q => (movGo n false k q).getD default) = (ps.map G).map (fun q => (movGo m false k q).getD default) := by
          rw [List.map_map, List.map_map]
          refine List.map_congr_left fun p hp => ?_
          show (movGo n false k (F p)).getD default = (movGo m false k (G p)).getD default
          rw [ih p hp]
        have exF : ∀ q ∈ ps.map F, ∃ b, Ex (.one b) q := fun q hq => by
          obtain ⟨p, hp, rfl⟩ := List.mem_map.1 hq; exact ⟨_, (fm p hp).2.1⟩
        have exG : ∀ q ∈ ps.map G, ∃ b, Ex (.one b) q := fun q hq => by
          obtain ⟨p, hp, rfl⟩ := List.mem_map.1 hq; exact ⟨_, (fn p hp).2.1⟩
        rw [movGo_step m false k x hK, em] at h1
        rw [movGo_step n false k x hK, en] at h2
        simp only [Bool.false_eq_true, and_false, if_false] at h1 h2
        have hrc := ren_comm ha x
        by_cases h6 : x.op = 6
        · rw [if_pos h6] at h1 h2
          split at h1
          · split at h2
            · injection h1 with h1
              injection h2 with h2
              subst h1 h2
              have p1 : ∀ q ∈ sortN (ps.map F), q ∈ ps.map F := fun q hq => (sortN_perm _).mem_iff.1 hq
              have p2 : ∀ q ∈ sortN (ps.map G), q ∈ ps.map G := fun q hq => (sortN_perm _).mem_iff.1 hq
              rw [movGo_any n false k _ (fun q hq => exF q (p1 q hq)), movGo_any m false k _ (fun q hq => exG q (p2 q hq)),
                allSome_of _ _ (fun q hq => gnF q (p1 q hq)), allSome_of _ _ (fun q hq => gmG q (p2 q hq))]
              simp only [(ren_op m x).1, (ren_op n x).1, h6, if_true]
              have hperm : ((sortN (ps.map F)).map fun q => (movGo n false k q).getD default).Perm ((sortN (ps.map G)).map fun q => (movGo m false k q).getD default) :=
                ((sortN_perm _).map _).trans ((List.Perm.of_eq hcomp).trans ((sortN_perm _).map _).symm)
              have hnn : (namesOf ((sortN (ps.map F)).map fun q => (movGo n false k q).getD default)).Nodup ↔ (namesOf ((sortN (ps.map G)).map fun q => (movGo m false k q).getD default)).Nodup := (hperm.map _).nodup_iff
              by_cases hd : (namesOf ((sortN (ps.map F)).map fun q => (movGo n false k q).getD default)).Nodup
              · rw [if_pos hd, if_pos (hnn.1 hd), hrc, sortN_eq hperm hd]
              · rw [if_neg hd, if_neg (fun h => hd (hnn.2 h))]
            · cases h2
          · cases h1
        · rw [if_neg h6] at h1 h2
          injection h1 with h1
          injection h2 with h2
          subst h1 h2
          rw [movGo_any n false k _ exF, movGo_any m false k _ exG, allSome_of _ _ gnF, allSome_of _ _ gmG]
          simp only [(ren_op m x).1, (ren_op n x).1, h6, if_false, Bool.false_eq_true, and_false]
          rw [hrc, hcomp]
theorem ApartM.symm {m n : Mv} (h : ApartM m n) : ApartM n m := fun e => by
  obtain ⟨a, b, c, d⟩ := h e.symm
  exact ⟨fun h => a h.symm, fun h => b h.symm, fun h => d h.symm, fun h => c h.symm⟩
/-- MoveApart. -/
theorem apart_plain {m n : Mv} {e : List Nd} (hm : mvErr m = 0) (hn : mvErr n = 0) (he : treeErr e = 0) (hfm : freshB m e = true) (hfn : freshB n e = true) (ha : ApartM m n) :
    ∃ x y z, movE m e = some x ∧ treeErr x = 0 ∧ movE n e = some y ∧ treeErr y = 0 ∧ movE n x = some z ∧ movE m y = some z := by
  have h := (tree_iff e).1 he
  have fm := fresh_iff.1 hfm
  have fn := fresh_iff.1 hfn
  obtain ⟨x, a1, a2, _, a4⟩ := mov_ex hm h.2 fm e.length (Nat.le_refl _)
  obtain ⟨y, b1, b2, _, b4⟩ := mov_ex hn h.2 fn e.length (Nat.le_refl _)
  have lx : x.length = e.length := by rw [a4.length_eq, List.length_map]
  have ly : y.length = e.length := by rw [b4.length_eq, List.length_map]
  obtain ⟨z, c1, _⟩ := mov_ex hn a2 (fresh_mov ha a4 fn) e.length (by omega)
  have hc := apart_go hm hn ha ha.symm e.length e false (Nat.le_refl _) h.2 fm fn e.length x y (Nat.le_refl _) a1 b1
  refine ⟨x, y, z, a1, (tree_iff x).2 ⟨by omega, a2⟩, b1, (tree_iff y).2 ⟨by omega, b2⟩, ?_, ?_⟩
  · unfold movE; rw [lx]; exact c1
  · unfold movE; rw [ly, ← hc]; exact c1
end Go.Proofs.Ytnhcjpmamgdeoaa
